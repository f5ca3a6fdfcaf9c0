/- The law FnExactEnoughFor, in the given statement's form, for every input. -/
import Derived.Test.YtimoiblediffpaaRows
import Derived.Test.YtimoiblediffpaaZFnExactEnoughForG
section
set_option linter.unusedVariables false
namespace Go.Proofs.Ytimoiblediffpaa.QFnExactEnoughFor
open Go.RowKit Go.Proofs.YtimoiblediffpaaW.PrintWords Go.Proofs.Ytimoiblediffpaa.Open
def Wf163 (y : S163) : Prop := (Lit.int .i64 y.f0).wf = true ∧ (Lit.int .u64 y.f1).wf = true
theorem opens163 {H : Type} {enc : TypeId × Value → H} {W : World} : Opens enc Try.prog W 163 k163 Wf163 :=
  Opens.imp (Opens.iso (fun x : S163 => (x.f0, x.f1)) (fun y => ⟨y.1, y.2⟩) (fun _ => rfl) (Opens.struct Try.underlying163 (by kernel_rfl) (OpensF.cons (by rfl) (by kernel_rfl) (Opens.int Try.underlying3) (OpensF.one (by rfl) (by kernel_rfl) (Opens.int Try.underlying22))))) (fun _ h => h)
def Wf232 (y : S232) : Prop := (Lit.int .i64 y.f0).wf = true ∧ (y.f1.length ≤ 9223372036854775807 ∧ ∀ x ∈ y.f1, Wf163 x)
theorem opens232 {H : Type} {enc : TypeId × Value → H} {W : World} : Opens enc Try.prog W 232 k232 Wf232 :=
  Opens.imp (Opens.iso (fun x : S232 => (x.f0, x.f1)) (fun y => ⟨y.1, y.2⟩) (fun _ => rfl) (Opens.struct Try.underlying232 (by kernel_rfl) (OpensF.cons (by rfl) (by kernel_rfl) (Opens.int Try.underlying3) (OpensF.one (by rfl) (by kernel_rfl) (Opens.sliceM Try.underlying67 (by kernel_rfl) opens163))))) (fun _ h => h)
def Wf179 (y : S179) : Prop := (y.f0.length ≤ 9223372036854775807 ∧ ∀ x ∈ y.f0, Wf163 x) ∧ (y.f1.length ≤ 9223372036854775807 ∧ ∀ x ∈ y.f1, Wf232 x)
theorem opens179 {H : Type} {enc : TypeId × Value → H} {W : World} : Opens enc Try.prog W 179 k179 Wf179 :=
  Opens.imp (Opens.iso (fun x : S179 => (x.f0, x.f1)) (fun y => ⟨y.1, y.2⟩) (fun _ => rfl) (Opens.struct Try.underlying179 (by kernel_rfl) (OpensF.cons (by rfl) (by kernel_rfl) (Opens.sliceM Try.underlying67 (by kernel_rfl) opens163) (OpensF.one (by rfl) (by kernel_rfl) (Opens.sliceM Try.underlying177 (by kernel_rfl) opens232))))) (fun _ h => h)
structure S70 where
  f0 : Int
  f1 : Int
  f2 : List S163
  f3 : List S179
def k70 : Kd S70 := Kd.iso (Kd.pair (Kd.int .i64) (Kd.pair (Kd.int .i64) (Kd.pair (Kd.slice 163 k163) (Kd.slice 179 k179)))) (fun x : S70 => (x.f0, x.f1, x.f2, x.f3))
theorem k70_open {w : World} {x : S70} {cs : List Value} (h : k70.K w x cs) : ∃ A2 c2 A3 c3, cs = [.int .i64 x.f0, .int .i64 x.f1, .slice A2 x.f2.length c2, .slice A3 x.f3.length c3] ∧ x.f2.length ≤ c2 ∧ Kd.C k163 w A2 x.f2.length x.f2 ∧ x.f3.length ≤ c3 ∧ Kd.C k179 w A3 x.f3.length x.f3 := by
  obtain ⟨_, _, rfl, rfl, ⟨_, _, rfl, rfl, ⟨_, _, rfl, ⟨A2, c2, rfl, l2, g2⟩, ⟨A3, c3, rfl, l3, g3⟩⟩⟩⟩ := h
  exact ⟨A2, c2, A3, c3, rfl, l2, g2, l3, g3⟩
def Wf70 (y : S70) : Prop := (Lit.int .i64 y.f0).wf = true ∧ (Lit.int .i64 y.f1).wf = true ∧ (y.f2.length ≤ 9223372036854775807 ∧ ∀ x ∈ y.f2, Wf163 x) ∧ (y.f3.length ≤ 9223372036854775807 ∧ ∀ x ∈ y.f3, Wf179 x)
theorem opens70 {H : Type} {enc : TypeId × Value → H} {W : World} : Opens enc Try.prog W 70 k70 Wf70 :=
  Opens.imp (Opens.iso (fun x : S70 => (x.f0, x.f1, x.f2, x.f3)) (fun y => ⟨y.1, y.2.1, y.2.2.1, y.2.2.2⟩) (fun _ => rfl) (Opens.struct Try.underlying70 (by kernel_rfl) (OpensF.cons (by rfl) (by kernel_rfl) (Opens.int Try.underlying3) (OpensF.cons (by rfl) (by kernel_rfl) (Opens.int Try.underlying3) (OpensF.cons (by rfl) (by kernel_rfl) (Opens.sliceM Try.underlying67 (by kernel_rfl) opens163) (OpensF.one (by rfl) (by kernel_rfl) (Opens.sliceM Try.underlying68 (by kernel_rfl) opens179))))))) (fun _ h => h)
def laws_FnExactEnoughFor.Pure : Prop := ∀ (y0 : S70) (w0 : Wf70 y0) (m0_2 : y0.f2.length ≤ 9223372036854775807) (m0_3 : y0.f3.length ≤ 9223372036854775807), ∃ k, laws_FnExactEnoughFor.f k y0.f0 y0.f1 y0.f2 y0.f3 = some true
end Go.Proofs.Ytimoiblediffpaa.QFnExactEnoughFor
end
section
set_option linter.unusedVariables false
set_option linter.unusedSimpArgs false
namespace Go.Proofs.Ytimoiblediffpaa.Math
open Go.RowKit Go.Proofs.YtimoiblediffpaaW.PrintWords Go.Proofs.YtimoiblediffpaaW.PrintLast Go.Proofs.YtimoiblediffpaaW.PrintMore
theorem wfU64 {n : Int} (h : (Lit.int .u64 n).wf = true) : 0 ≤ n ∧ n < 18446744073709551616 := by
  simp [Lit.wf, IntKind.min, IntKind.max, IntKind.signed, IntKind.bits] at h
  omega
theorem wrap64_in {n : Int} (h0 : -9223372036854775808 ≤ n) (h1 : n < 9223372036854775808) : wrap64 n = n := by
  unfold wrap64
  omega
theorem wrapU64_mod (n : Int) : IntKind.u64.wrap n = n % 18446744073709551616 := by
  simp [IntKind.wrap, IntKind.bits, IntKind.signed]
theorem wrapU64_in {n : Int} (h0 : 0 ≤ n) (h1 : n < 18446744073709551616) : IntKind.u64.wrap n = n := by
  rw [wrapU64_mod]
  omega
theorem bits64 (a b : Nat) (ha : a < 2 ^ 64) (hb : b < 2 ^ 64) : bits .and .u64 (a : Int) (b : Int) = ((a &&& b : Nat) : Int) ∧ bits .or .u64 (a : Int) (b : Int) = ((a ||| b : Nat) : Int) :=
  bits_nat .u64 64 (by decide) (fun n h0 h1 => wrapU64_in h0 (by simpa using h1)) a b ha hb
theorem shl_one (i : Nat) (h : i < 64) : shl .u64 1 (i : Int) = ((2 ^ i : Nat) : Int) := by
  unfold shl
  have e : min ((i : Int)).toNat (IntKind.u64.bits) = i := by
    simp only [Int.toNat_natCast, IntKind.bits]
    omega
  rw [e, Int.one_mul]
  have h2 : (2 : Nat) ^ i < 2 ^ 64 := Nat.pow_lt_pow_right (by decide) h
  rw [wrapU64_in]
  · simp
  · exact Int.le_of_lt (Int.pow_pos (by decide))
  · have : ((2 ^ i : Nat) : Int) < ((2 ^ 64 : Nat) : Int) := by exact_mod_cast h2
    simpa using this
theorem cut_step (a i : Nat) : (a % 2 ^ i) ||| (a &&& 2 ^ i) = a % 2 ^ (i + 1) := by
  apply Nat.eq_of_testBit_eq
  intro j
  rw [Nat.testBit_or, Nat.testBit_and, Nat.testBit_mod_two_pow, Nat.testBit_mod_two_pow, Nat.testBit_two_pow]
  by_cases h1 : j < i
  · have h2 : j < i + 1 := by omega
    have h3 : ¬ i = j := by omega
    simp [h1, h2, h3]
  · by_cases h3 : i = j
    · subst h3
      simp
    · have h2 : ¬ j < i + 1 := by omega
      simp [h1, h2, h3]
theorem pow_le64 {n : Nat} (h : n ≤ 64) : (2 : Nat) ^ n ≤ 18446744073709551616 := by
  have : (2 : Nat) ^ n ≤ 2 ^ 64 := Nat.pow_le_pow_right (by decide) h
  simpa using this
theorem mask_eq (n : Nat) (h0 : 1 ≤ n) (h1 : n ≤ 64) : shr .u64 18446744073709551615 (wrap64 (64 - (n : Int))) = ((2 ^ n - 1 : Nat) : Int) := by
  rw [wrap64_in (by omega) (by omega)]
  unfold shr
  have e : min ((64 : Int) - (n : Int)).toNat (IntKind.u64.bits) = 64 - n := by
    simp only [IntKind.bits]
    omega
  rw [e]
  have hp : 0 < (2 : Nat) ^ (64 - n) := Nat.two_pow_pos _
  have hq : (2 : Nat) ^ n * 2 ^ (64 - n) = 18446744073709551616 := by
    rw [← Nat.pow_add, show n + (64 - n) = 64 by omega]
  have hn : 0 < (2 : Nat) ^ n := Nat.two_pow_pos _
  have key : 18446744073709551615 / 2 ^ (64 - n) = 2 ^ n - 1 := by
    have : 18446744073709551615 = (2 ^ n - 1) * 2 ^ (64 - n) + (2 ^ (64 - n) - 1) := by
      rw [Nat.sub_mul, Nat.one_mul, hq]
      have : 2 ^ (64 - n) ≤ 18446744073709551616 := pow_le64 (by omega)
      omega
    rw [this, Nat.mul_comm, Nat.mul_add_div hp, Nat.div_eq_of_lt (by omega), Nat.add_zero]
  have : ((18446744073709551615 : Nat) : Int) / ((2 ^ (64 - n) : Nat) : Int) = ((2 ^ n - 1 : Nat) : Int) := by
    rw [← Int.natCast_ediv, key]
  simpa using this
theorem rd_at (xs : List Int) (i : Nat) (h : i < xs.length) : rd xs (i : Int) = xs[i] := by
  simp [rd, List.getD_eq_getElem?_getD, h]
theorem getD_at {α : Type} (xs : List α) (z : α) (i : Nat) (h : i < xs.length) : xs.getD ((i : Int)).toNat z = xs[i] := by
  simp [List.getD_eq_getElem?_getD, h]
theorem up1 (i : Nat) (h : i < 4611686018427387904) : wrap64 ((i : Int) + 1) = ((i + 1 : Nat) : Int) := by
  rw [wrap64_in (by omega) (by omega)]
  omega
theorem loop_all {α β : Type} (l : List α) (q : α → Bool) (good bad : β) (F : Nat → Int → Option β) (K : Nat)
    (hs : ∀ (k i : Nat) (h : i < l.length), K ≤ k → F (k + 1) (i : Int) = if q l[i] = true then F k ((i + 1 : Nat) : Int) else some bad)
    (he : ∀ k : Nat, K ≤ k → F (k + 1) (l.length : Int) = some good) (k : Nat) (hk : K + l.length < k) : F k 0 = some (if l.all q = true then good else bad) := by
  have key : ∀ (d i k : Nat), i + d = l.length → K + d < k → F k (i : Int) = some (if (l.drop i).all q = true then good else bad) := by
    intro d
    induction d with
    | zero =>
      intro i k hi hk
      obtain ⟨k, rfl⟩ : ∃ m, k = m + 1 := ⟨k - 1, by omega⟩
      obtain rfl : i = l.length := by omega
      rw [he k (by omega)]
      simp
    | succ d ih =>
      intro i k hi hk
      obtain ⟨k, rfl⟩ : ∃ m, k = m + 1 := ⟨k - 1, by omega⟩
      have hlt : i < l.length := by omega
      rw [hs k i hlt (by omega), List.drop_eq_getElem_cons hlt, List.all_cons]
      cases hq : q l[i] with
      | false => simp
      | true =>
        rw [if_pos rfl, ih (i + 1) k (by omega) (by omega)]
        simp
  have := key l.length 0 k (by omega) hk
  simpa using this
theorem loop_find {α : Type} (l : List α) (q : α → Bool) (F : Nat → Int → Option Int) (K : Nat)
    (hs : ∀ (k i : Nat) (h : i < l.length), K ≤ k → F (k + 1) (i : Int) = if q l[i] = true then some (i : Int) else F k ((i + 1 : Nat) : Int))
    (he : ∀ k : Nat, K ≤ k → F (k + 1) (l.length : Int) = some (-1)) (k : Nat) (hk : K + l.length < k) : F k 0 = some (if l.any q = true then (l.findIdx q : Int) else -1) := by
  have key : ∀ (d i k : Nat), i + d = l.length → K + d < k → F k (i : Int) = some (if (l.drop i).any q = true then ((i + (l.drop i).findIdx q : Nat) : Int) else -1) := by
    intro d
    induction d with
    | zero =>
      intro i k hi hk
      obtain ⟨k, rfl⟩ : ∃ m, k = m + 1 := ⟨k - 1, by omega⟩
      obtain rfl : i = l.length := by omega
      rw [he k (by omega)]
      simp
    | succ d ih =>
      intro i k hi hk
      obtain ⟨k, rfl⟩ : ∃ m, k = m + 1 := ⟨k - 1, by omega⟩
      have hlt : i < l.length := by omega
      rw [hs k i hlt (by omega), List.drop_eq_getElem_cons hlt, List.any_cons, List.findIdx_cons]
      cases hq : q l[i] with
      | true => simp
      | false =>
        rw [if_neg (by simp), ih (i + 1) k (by omega) (by omega)]
        by_cases hany : (l.drop (i + 1)).any q = true
        · simp only [hany, if_true, Bool.false_or, cond_false]
          congr 2
          omega
        · simp [hany]
  have := key l.length 0 k (by omega) hk
  simpa using this
theorem find_nonneg {α : Type} (l : List α) (q : α → Bool) : decide ((if l.any q = true then (l.findIdx q : Int) else -1) ≥ 0) = l.any q := by
  cases h : l.any q <;> simp
theorem loop_map {α β : Type} (l : List α) (f : α → β) (F : Nat → List β → Int → Option (List β)) (K : Nat)
    (hs : ∀ (k i : Nat) (h : i < l.length) (x : List β), K ≤ k → x.length = l.length → F (k + 1) x (i : Int) = F k (x.set i (f l[i])) ((i + 1 : Nat) : Int))
    (he : ∀ (k : Nat) (x : List β), K ≤ k → x.length = l.length → F (k + 1) x (l.length : Int) = some x) (k : Nat) (hk : K + l.length < k) (x : List β) (hx : x.length = l.length) : F k x 0 = some (l.map f) := by
  have key : ∀ (d i k : Nat) (x : List β), i + d = l.length → K + d < k → x.length = l.length → F k x (i : Int) = some (x.take i ++ (l.drop i).map f) := by
    intro d
    induction d with
    | zero =>
      intro i k x hi hk hx
      obtain ⟨k, rfl⟩ : ∃ m, k = m + 1 := ⟨k - 1, by omega⟩
      obtain rfl : i = l.length := by omega
      rw [he k x (by omega) hx]
      simp [List.take_of_length_le (Nat.le_of_eq hx)]
    | succ d ih =>
      intro i k x hi hk hx
      obtain ⟨k, rfl⟩ : ∃ m, k = m + 1 := ⟨k - 1, by omega⟩
      have hlt : i < l.length := by omega
      rw [hs k i hlt x (by omega) hx, ih (i + 1) k _ (by omega) (by omega) (by simpa using hx), List.drop_eq_getElem_cons hlt, List.map_cons]
      have e : (x.set i (f l[i])).take (i + 1) = x.take i ++ [f l[i]] := by
        rw [List.take_succ_eq_append_getElem (by simpa using (by omega : i < x.length)), List.getElem_set_self, List.take_set_of_le (Nat.le_refl _)]
      rw [e]
      simp
  have := key l.length 0 k x (by omega) hk hx
  simpa using this
end Go.Proofs.Ytimoiblediffpaa.Math
end
section
set_option linter.unusedVariables false
set_option linter.unusedSimpArgs false
namespace Go.Proofs.Ytimoiblediffpaa.QFnExactEnoughFor
open Go.RowKit Go.Proofs.YtimoiblediffpaaW.PrintWords Go.Proofs.YtimoiblediffpaaW.PrintLast Go.Proofs.YtimoiblediffpaaW.PrintMore Go.Proofs.Ytimoiblediffpaa.Math Go.Proofs.Ytimoiblediffpaa.Open
def U64 (n : Int) : Prop := 0 ≤ n ∧ n < 18446744073709551616
theorem spec_l1Cut_loop (n a : Nat) (hn : n ≤ 4611686018427387904) (ha : a < 2 ^ 64) (d : Nat) : ∀ (k i : Nat), i + d = n → d < k →
    spec_l1Cut.l0 k (n : Int) (a : Int) ((a % 2 ^ (min i 64) : Nat) : Int) (i : Int) = some ((a % 2 ^ (min n 64) : Nat) : Int) := by
  induction d with
  | zero =>
    intro k i hi hk
    obtain ⟨k, rfl⟩ : ∃ m, k = m + 1 := ⟨k - 1, by omega⟩
    obtain rfl : i = n := by omega
    simp only [spec_l1Cut.l0]
    rw [if_neg (by omega)]
  | succ d ih =>
    intro k i hi hk
    obtain ⟨k, rfl⟩ : ∃ m, k = m + 1 := ⟨k - 1, by omega⟩
    simp only [spec_l1Cut.l0]
    have e1 : IntKind.u64.wrap (i : Int) = (i : Int) := wrapU64_in (by omega) (by omega)
    have e2 : wrap64 ((i : Int) + 1) = ((i + 1 : Nat) : Int) := by rw [wrap64_in (by omega) (by omega)]; omega
    rw [if_pos (by omega), e1, if_pos (by omega), e2]
    by_cases h64 : i < 64
    · have hlt : a % 2 ^ i < 2 ^ 64 := Nat.lt_of_le_of_lt (Nat.mod_le _ _) ha
      have hp : (2 : Nat) ^ i < 2 ^ 64 := Nat.pow_lt_pow_right (by decide) h64
      rw [shl_one i h64, (bits64 a (2 ^ i) ha hp).1, show min i 64 = i by omega, (bits64 (a % 2 ^ i) (a &&& 2 ^ i) hlt (Nat.and_lt_two_pow _ hp)).2, cut_step]
      have := ih k (i + 1) (by omega) (by omega)
      rw [show min (i + 1) 64 = i + 1 by omega] at this
      exact this
    · have e3 : shl .u64 1 (i : Int) = 0 := by
        unfold shl
        rw [show min ((i : Int)).toNat (IntKind.u64.bits) = 64 by simp only [Int.toNat_natCast, IntKind.bits]; omega, wrapU64_mod]
        decide
      have hlt : a % 2 ^ (min i 64) < 2 ^ 64 := Nat.lt_of_le_of_lt (Nat.mod_le _ _) ha
      rw [e3, show (0 : Int) = ((0 : Nat) : Int) from rfl, (bits64 a 0 ha (by decide)).1, (bits64 _ (a &&& 0) hlt (by simp)).2]
      rw [show a % 2 ^ (min i 64) ||| a &&& 0 = a % 2 ^ (min (i + 1) 64) by simp; rw [show min i 64 = min (i + 1) 64 by omega]]
      exact ih k (i + 1) (by omega) (by omega)
theorem spec_l1Cut_eq (n a : Nat) (hn : n ≤ 4611686018427387904) (ha : a < 2 ^ 64) (k : Nat) (hk : n < k) : spec_l1Cut.f k (n : Int) (a : Int) = some ((a % 2 ^ (min n 64) : Nat) : Int) := by
  have := spec_l1Cut_loop n a hn ha n k 0 (by omega) hk
  simpa [spec_l1Cut.f, Nat.mod_one] using this
def goodWord (wide a : Int) : Bool := decide (1 ≤ wide) && decide (wide ≤ 64) && decide (a < 2 ^ wide.toNat)
theorem spec_GoodWord_eq (wide a : Int) (h0 : 0 ≤ a) (h1 : a < 18446744073709551616) (k : Nat) (hk : 64 < k) : spec_GoodWord.f k wide a = some (goodWord wide a) := by
  unfold spec_GoodWord.f spec_l1Wide.f spec_l1In.f goodWord
  by_cases h2 : wide ≥ 1
  · by_cases h3 : wide ≤ 64
    · obtain ⟨n, rfl⟩ := Int.eq_ofNat_of_zero_le (show 0 ≤ wide by omega)
      obtain ⟨m, rfl⟩ := Int.eq_ofNat_of_zero_le h0
      have hm : m < 2 ^ 64 := by simpa using (show m < 18446744073709551616 by omega)
      rw [if_pos h2]
      simp only [Option.bind_some, h3, decide_true, if_true]
      rw [spec_l1Cut_eq n m (by omega) hm k (by omega), show min n 64 = n by omega]
      have hiff : ((((m % 2 ^ n : Nat) : Int) == ((m : Nat) : Int)) : Bool) = decide (((m : Nat) : Int) < 2 ^ n) := by
        rw [Bool.eq_iff_iff]
        have : (((m : Nat) : Int) < 2 ^ n) ↔ m < 2 ^ n := by
          constructor
          · intro h; exact_mod_cast h
          · intro h; exact_mod_cast h
        simp only [beq_iff_eq, decide_eq_true_eq, this]
        constructor
        · intro h
          have h' : m % 2 ^ n = m := by exact_mod_cast h
          rw [← h']
          exact Nat.mod_lt _ (Nat.two_pow_pos _)
        · intro h
          rw [Nat.mod_eq_of_lt h]
      simp only [Option.bind_some, hiff, Int.toNat_natCast, h2, ge_iff_le, decide_true, Bool.true_and]
    · rw [if_pos h2]
      simp [h3]
  · rw [if_neg h2]
    simp [show ¬ (1 : Int) ≤ wide from h2]
theorem impl_GoodWord_eq (wide a : Int) (h0 : 0 ≤ a) (h1 : a < 18446744073709551616) : impl_GoodWord.f wide a = some (goodWord wide a) := by
  unfold impl_GoodWord.f impl_isWide.f goodWord
  by_cases h2 : wide ≥ 1
  · by_cases h3 : wide ≤ 64
    · obtain ⟨n, rfl⟩ := Int.eq_ofNat_of_zero_le (show 0 ≤ wide by omega)
      rw [if_pos h2]
      simp only [Option.bind_some, h3, decide_true, if_true]
      have hm : impl_mask.f (n : Int) = some (((2 ^ n - 1 : Nat)) : Int) := by
        unfold impl_mask.f
        rw [mask_eq n (by omega) (by omega), if_pos (by rw [wrap64_in (by omega) (by omega)]; omega)]
      rw [hm]
      have hiff : decide (a ≤ ((2 ^ n - 1 : Nat) : Int)) = decide (a < 2 ^ n) := by
        have hp : 0 < (2 : Nat) ^ n := Nat.two_pow_pos _
        have e : ((2 : Int) ^ n) = ((2 ^ n : Nat) : Int) := by simp
        rw [e]
        apply decide_eq_decide.mpr
        omega
      simp only [Option.bind_some, hiff, Int.toNat_natCast]
      simp [show (1 : Int) ≤ (n : Int) from h2]
    · rw [if_pos h2]
      simp [h3]
  · rw [if_neg h2]
    simp [show ¬ (1 : Int) ≤ wide from h2]
def nodeOf (x : S163) : S161 := ⟨x.f0, x.f1⟩
theorem laws_toNodeS_eq (l : List S163) (hl : l.length ≤ 1048576) (k : Nat) (hk : l.length < k) : laws_toNodeS.f k l = some (l.map nodeOf) := by
  unfold laws_toNodeS.f
  rw [if_pos (by omega), if_pos (by simp only [Int.toNat_natCast]; omega)]
  exact loop_map l nodeOf (fun k x i => laws_toNodeS.l0 k l x i) 0 (fun k i h x _ hx => by
    simp only [laws_toNodeS.l0, laws_toNode.f, rd_T163]
    rw [if_pos (by omega), if_pos (by omega), getD_at l _ i h]
    simp only [Option.bind_some]
    rw [if_pos (by omega), up1 i (by omega), Int.toNat_natCast]
    rfl) (fun k x _ hx => by
    simp only [laws_toNodeS.l0]
    rw [if_neg (by omega)]) k (by omega) _ (by simp)
theorem laws_szNodeS_eq (l : List S163) (hm : l.length ≤ 9223372036854775807) (n : Int) (h0 : 0 ≤ n) (h1 : n ≤ 1048576) : laws_szNodeS.f l n = some (if n - (l.length : Int) < 0 then -1 else n - (l.length : Int)) := by
  unfold laws_szNodeS.f
  rw [wrap64_in (by omega) (by omega)]
  split <;> rfl
theorem laws_eqNodeS_self (l : List S161) (hl : l.length ≤ 1048576) (k : Nat) (hk : l.length < k) : laws_eqNodeS.f k l l = some true := by
  unfold laws_eqNodeS.f
  rw [if_pos rfl]
  have := loop_all l (fun _ => true) true false (fun k i => laws_eqNodeS.l0 k l l i) 0 (fun k i h _ => by
    simp only [laws_eqNodeS.l0, laws_eqNode.f]
    rw [if_pos (by omega), if_pos (by omega), if_pos (by omega), up1 i (by omega)]
    simp) (fun k _ => by
    simp only [laws_eqNodeS.l0]
    rw [if_neg (by omega)]) k (by omega)
  simpa using this
theorem loop_size {α : Type} (l : List α) (step : Nat → α → Int → Option Int) (small : α → Prop) (F : Nat → Int → Int → Option Int) (K : Nat)
    (hF : ∀ (k i : Nat) (h : i < l.length) (n : Int), F (k + 1) n (i : Int) = (step k l[i] n).bind fun t => if t < 0 then some (-1) else F k t ((i + 1 : Nat) : Int))
    (hE : ∀ (k : Nat) (n : Int), F (k + 1) n (l.length : Int) = some n)
    (hstep : ∀ x ∈ l, ∀ (k : Nat) (n : Int), K ≤ k → 0 ≤ n → n ≤ 1048576 → ∃ r, step k x n = some r ∧ r ≤ n ∧ (0 ≤ r → small x))
    (n : Int) (h0 : 0 ≤ n) (h1 : n ≤ 1048576) (k : Nat) (hk : K + l.length < k) : ∃ r, F k n 0 = some r ∧ r ≤ n ∧ (0 ≤ r → ∀ x ∈ l, small x) := by
  have key : ∀ (d i k : Nat) (n : Int), i + d = l.length → K + d < k → 0 ≤ n → n ≤ 1048576 → ∃ r, F k n (i : Int) = some r ∧ r ≤ n ∧ (0 ≤ r → ∀ x ∈ l.drop i, small x) := by
    intro d
    induction d with
    | zero =>
      intro i k n hi hk h0 h1
      obtain ⟨k, rfl⟩ : ∃ m, k = m + 1 := ⟨k - 1, by omega⟩
      obtain rfl : i = l.length := by omega
      exact ⟨n, hE k n, Int.le_refl _, fun _ x hx => by simp at hx⟩
    | succ d ih =>
      intro i k n hi hk h0 h1
      obtain ⟨k, rfl⟩ : ∃ m, k = m + 1 := ⟨k - 1, by omega⟩
      have hlt : i < l.length := by omega
      obtain ⟨t, e1, e2, e3⟩ := hstep _ (List.getElem_mem hlt) k n (by omega) h0 h1
      rw [hF k i hlt n, e1, List.drop_eq_getElem_cons hlt]
      simp only [Option.bind_some]
      by_cases ht : t < 0
      · exact ⟨-1, by rw [if_pos ht], by omega, fun h => by omega⟩
      · obtain ⟨r, f1, f2, f3⟩ := ih (i + 1) k t (by omega) (by omega) (by omega) (by omega)
        refine ⟨r, by rw [if_neg ht]; exact f1, by omega, fun h x hx => ?_⟩
        rcases List.mem_cons.1 hx with rfl | hx
        · exact e3 (by omega)
        · exact f3 h x hx
  exact key l.length 0 k n (by omega) hk h0 h1
def changeOf (x : S232) : S229 := ⟨x.f0, x.f1.map nodeOf⟩
theorem laws_toChangeS_eq (l : List S232) (hl : l.length ≤ 1048576) (hn : ∀ x ∈ l, x.f1.length ≤ 1048576) (k : Nat) (hk : 3000000 ≤ k) : laws_toChangeS.f k l = some (l.map changeOf) := by
  unfold laws_toChangeS.f
  rw [if_pos (by omega), if_pos (by simp only [Int.toNat_natCast]; omega)]
  exact loop_map l changeOf (fun k x i => laws_toChangeS.l0 k l x i) 1048577 (fun k i h x hk hx => by
    simp only [laws_toChangeS.l0, laws_toChange.f, rd_T232]
    have := hn _ (List.getElem_mem h)
    rw [if_pos (by omega), if_pos (by omega), getD_at l _ i h, laws_toNodeS_eq _ this k (by omega)]
    simp only [Option.bind_some]
    rw [if_pos (by omega), up1 i (by omega), Int.toNat_natCast]
    rfl) (fun k x _ hx => by
    simp only [laws_toChangeS.l0]
    rw [if_neg (by omega)]) k (by omega) _ (by simp)
theorem laws_szChangeS_eq (l : List S232) (hm : l.length ≤ 9223372036854775807) (hw : ∀ x ∈ l, x.f1.length ≤ 9223372036854775807) (n : Int) (h0 : 0 ≤ n) (h1 : n ≤ 1048576) (k : Nat) (hk : 3000000 ≤ k) :
    ∃ r, laws_szChangeS.f k l n = some r ∧ r ≤ n ∧ (0 ≤ r → l.length ≤ 1048576 ∧ ∀ x ∈ l, x.f1.length ≤ 1048576) := by
  unfold laws_szChangeS.f
  rw [wrap64_in (by omega) (by omega)]
  by_cases hs : n - (l.length : Int) < 0
  · exact ⟨-1, by rw [if_pos hs], by omega, fun h => by omega⟩
  · have hl : l.length ≤ 1048576 := by omega
    obtain ⟨r, f1, f2, f3⟩ := loop_size l (fun k x n => laws_szChange.f x.f0 x.f1 n) (fun x => x.f1.length ≤ 1048576) (fun k n i => laws_szChangeS.l0 k l n i) 0 (fun k i h n => by
      simp only [laws_szChangeS.l0, rd_T232]
      rw [if_pos (by omega), if_pos (by omega), getD_at l _ i h, up1 i (by omega)]) (fun k n => by
      simp only [laws_szChangeS.l0]
      rw [if_neg (by omega)]) (fun x hx k n _ h0 h1 => by
      unfold laws_szChange.f
      rw [laws_szNodeS_eq x.f1 (hw x hx) n h0 h1]
      simp only [Option.bind_some]
      by_cases hs : n - (x.f1.length : Int) < 0
      · exact ⟨-1, by simp [hs], by omega, fun h => by omega⟩
      · exact ⟨n - (x.f1.length : Int), by rw [if_neg hs, if_neg hs], by omega, fun h => by omega⟩) (n - (l.length : Int)) (by omega) (by omega) k (by omega)
    exact ⟨r, by rw [if_neg hs]; exact f1, by omega, fun h => ⟨hl, f3 h⟩⟩
theorem laws_eqChangeS_self (l : List S229) (hl : l.length ≤ 1048576) (hn : ∀ x ∈ l, x.f1.length ≤ 1048576) (k : Nat) (hk : 3000000 ≤ k) : laws_eqChangeS.f k l l = some true := by
  unfold laws_eqChangeS.f
  rw [if_pos rfl]
  have := loop_all l (fun _ => true) true false (fun k i => laws_eqChangeS.l0 k l l i) 1048577 (fun k i h hk => by
    simp only [laws_eqChangeS.l0, laws_eqChange.f]
    have := hn _ (List.getElem_mem h)
    rw [if_pos (by omega), if_pos (by omega), if_pos (by omega), up1 i (by omega), show rd_T229 l (i : Int) = l[i] from getD_at l _ i h, laws_eqNodeS_self _ this k (by omega)]
    simp) (fun k _ => by
    simp only [laws_eqChangeS.l0]
    rw [if_neg (by omega)]) k (by omega)
  simpa using this
def commandOf (x : S179) : S183 := ⟨x.f0.map nodeOf, x.f1.map changeOf⟩
def smallCmd (x : S179) : Prop := x.f0.length ≤ 1048576 ∧ x.f1.length ≤ 1048576 ∧ ∀ c ∈ x.f1, c.f1.length ≤ 1048576
theorem laws_toCommandS_eq (l : List S179) (hl : l.length ≤ 1048576) (hn : ∀ x ∈ l, smallCmd x) (k : Nat) (hk : 5000000 ≤ k) : laws_toCommandS.f k l = some (l.map commandOf) := by
  unfold laws_toCommandS.f
  rw [if_pos (by omega), if_pos (by simp only [Int.toNat_natCast]; omega)]
  exact loop_map l commandOf (fun k x i => laws_toCommandS.l0 k l x i) 3000000 (fun k i h x hk hx => by
    simp only [laws_toCommandS.l0, laws_toCommand.f, rd_T179]
    have hs := hn _ (List.getElem_mem h)
    have hs1 := hs.1
    rw [if_pos (by omega), if_pos (by omega), getD_at l _ i h, laws_toNodeS_eq _ hs.1 k (by omega), laws_toChangeS_eq _ hs.2.1 hs.2.2 k (by omega)]
    simp only [Option.bind_some]
    rw [if_pos (by omega), up1 i (by omega), Int.toNat_natCast]
    rfl) (fun k x _ hx => by
    simp only [laws_toCommandS.l0]
    rw [if_neg (by omega)]) k (by omega) _ (by simp)
theorem laws_szCommandS_eq (l : List S179) (hm : l.length ≤ 9223372036854775807) (hw : ∀ x ∈ l, Wf179 x) (n : Int) (h0 : 0 ≤ n) (h1 : n ≤ 1048576) (k : Nat) (hk : 5000000 ≤ k) :
    ∃ r, laws_szCommandS.f k l n = some r ∧ r ≤ n ∧ (0 ≤ r → l.length ≤ 1048576 ∧ ∀ x ∈ l, smallCmd x) := by
  unfold laws_szCommandS.f
  rw [wrap64_in (by omega) (by omega)]
  by_cases hs : n - (l.length : Int) < 0
  · exact ⟨-1, by rw [if_pos hs], by omega, fun h => by omega⟩
  · have hl : l.length ≤ 1048576 := by omega
    obtain ⟨r, f1, f2, f3⟩ := loop_size l (fun k x n => laws_szCommand.f k x.f0 x.f1 n) smallCmd (fun k n i => laws_szCommandS.l0 k l n i) 3000000 (fun k i h n => by
      simp only [laws_szCommandS.l0, rd_T179]
      rw [if_pos (by omega), if_pos (by omega), getD_at l _ i h, up1 i (by omega)]) (fun k n => by
      simp only [laws_szCommandS.l0]
      rw [if_neg (by omega)]) (fun x hx k n hk h0 h1 => by
      unfold laws_szCommand.f
      obtain ⟨w1, w2, w3⟩ := hw x hx
      rw [laws_szNodeS_eq x.f0 w1.1 n h0 h1]
      simp only [Option.bind_some]
      by_cases hs : n - (x.f0.length : Int) < 0
      · exact ⟨-1, by simp [hs], by omega, fun h => by omega⟩
      · obtain ⟨r, f1, f2, f3⟩ := laws_szChangeS_eq x.f1 w2 (fun c hc => (w3 c hc).2.1) (n - (x.f0.length : Int)) (by omega) (by omega) k hk
        rw [if_neg hs, if_neg hs, f1]
        simp only [Option.bind_some]
        by_cases hr : r < 0
        · exact ⟨-1, by rw [if_pos hr], by omega, fun h => by omega⟩
        · exact ⟨r, by rw [if_neg hr], by omega, fun h => ⟨by omega, f3 h⟩⟩) (n - (l.length : Int)) (by omega) (by omega) k (by omega)
    exact ⟨r, by rw [if_neg hs]; exact f1, by omega, fun h => ⟨hl, f3 h⟩⟩
theorem commandOf_ok (l : List S179) (hl : l.length ≤ 1048576) (hn : ∀ x ∈ l, smallCmd x) (hw : ∀ x ∈ l, Wf179 x) (y : S183) (hy : y ∈ l.map commandOf) : (∀ x ∈ y.f0, U64 x.f1) ∧ y.f1.length ≤ 1048576 ∧ ∀ d ∈ y.f1, ∀ x ∈ d.f1, U64 x.f1 := by
  obtain ⟨c, hc, rfl⟩ := List.mem_map.1 hy
  obtain ⟨w1, w2, w3⟩ := hw c hc
  refine ⟨fun x hx => ?_, by simpa [commandOf] using (hn c hc).2.1, fun d hd x hx => ?_⟩
  · obtain ⟨z, hz, rfl⟩ := List.mem_map.1 hx
    exact wfU64 (w1.2 z hz).2
  · obtain ⟨e, he, rfl⟩ := List.mem_map.1 hd
    obtain ⟨z, hz, rfl⟩ := List.mem_map.1 hx
    exact wfU64 ((w3 e he).2.2 z hz).2
theorem laws_eqCommandS_self (l : List S183) (hl : l.length ≤ 1048576) (hn : ∀ x ∈ l, x.f0.length ≤ 1048576 ∧ x.f1.length ≤ 1048576 ∧ ∀ c ∈ x.f1, c.f1.length ≤ 1048576) (k : Nat) (hk : 5000000 ≤ k) : laws_eqCommandS.f k l l = some true := by
  unfold laws_eqCommandS.f
  rw [if_pos rfl]
  have := loop_all l (fun _ => true) true false (fun k i => laws_eqCommandS.l0 k l l i) 3000000 (fun k i h hk => by
    simp only [laws_eqCommandS.l0, laws_eqCommand.f]
    obtain ⟨n1, n2, n3⟩ := hn _ (List.getElem_mem h)
    rw [if_pos (by omega), if_pos (by omega), if_pos (by omega), up1 i (by omega), show rd_T183 l (i : Int) = l[i] from getD_at l _ i h, laws_eqNodeS_self _ n1 k (by omega), laws_eqChangeS_self _ n2 n3 k (by omega)]
    simp) (fun k _ => by
    simp only [laws_eqCommandS.l0]
    rw [if_neg (by omega)]) k (by omega)
  simpa using this
def smallProg (st : List S163) (cm : List S179) : Prop := st.length ≤ 1048576 ∧ cm.length ≤ 1048576 ∧ ∀ x ∈ cm, smallCmd x
theorem laws_toProgram_eq (wide vars : Int) (st : List S163) (cm : List S179) (h : smallProg st cm) (k : Nat) (hk : 5000000 ≤ k) : laws_toProgram.f k wide vars st cm = some (wide, vars, st.map nodeOf, cm.map commandOf) := by
  unfold laws_toProgram.f
  rw [laws_toNodeS_eq st h.1 k (by have := h.1; omega), laws_toCommandS_eq cm h.2.1 h.2.2 k hk]
  rfl
theorem laws_szProgram_eq (wide vars : Int) (st : List S163) (cm : List S179) (m1 : st.length ≤ 9223372036854775807) (m2 : cm.length ≤ 9223372036854775807) (hw : ∀ x ∈ cm, Wf179 x) (n : Int) (h0 : 0 ≤ n) (h1 : n ≤ 1048576) (k : Nat) (hk : 5000000 ≤ k) :
    ∃ r, laws_szProgram.f k wide vars st cm n = some r ∧ r ≤ n ∧ (0 ≤ r → smallProg st cm) := by
  unfold laws_szProgram.f
  rw [laws_szNodeS_eq st m1 n h0 h1]
  simp only [Option.bind_some]
  by_cases hs : n - (st.length : Int) < 0
  · exact ⟨-1, by simp [hs], by omega, fun h => by omega⟩
  · obtain ⟨r, f1, f2, f3⟩ := laws_szCommandS_eq cm m2 hw (n - (st.length : Int)) (by omega) (by omega) k hk
    rw [if_neg hs, if_neg hs, f1]
    simp only [Option.bind_some]
    by_cases hr : r < 0
    · exact ⟨-1, by rw [if_pos hr], by omega, fun h => by omega⟩
    · exact ⟨r, by rw [if_neg hr], by omega, fun h => ⟨by omega, f3 h⟩⟩
theorem nodeOf_ok {l : List S163} (hw : ∀ x ∈ l, Wf163 x) (x : S161) (hx : x ∈ l.map nodeOf) : U64 x.f1 := by
  obtain ⟨z, hz, rfl⟩ := List.mem_map.1 hx
  exact wfU64 (hw z hz).2
theorem laws_eqProgram_self (wide vars : Int) (st : List S163) (cm : List S179) (h : smallProg st cm) (k : Nat) (hk : 5000000 ≤ k) : laws_eqProgram.f k wide vars (st.map nodeOf) (cm.map commandOf) wide vars (st.map nodeOf) (cm.map commandOf) = some true := by
  unfold laws_eqProgram.f
  obtain ⟨h1, h2, h3⟩ := h
  rw [laws_eqNodeS_self _ (by simpa using h1) k (by simp; omega), laws_eqCommandS_self _ (by simpa using h2) (fun x hx => by
    obtain ⟨c, hc, rfl⟩ := List.mem_map.1 hx
    obtain ⟨n1, n2, n3⟩ := h3 c hc
    refine ⟨by simpa [commandOf] using n1, by simpa [commandOf] using n2, fun d hd => ?_⟩
    obtain ⟨e, he, rfl⟩ := List.mem_map.1 hd
    simpa [changeOf] using n3 e he) k hk]
  simp
def need (op : Int) : Int × Int × Int :=
  if op = 1 ∨ op = 2 then (0, 1, 1) else if op = 20 then (0, 2, 2) else if op = 13 then (1, 1, 1) else if op = 19 then (1, 2, 2)
  else if 3 ≤ op ∧ op ≤ 12 then (2, 1, 1) else if 14 ≤ op ∧ op ≤ 16 then (2, 1, 2) else if op = 17 ∨ op = 18 then (2, 2, 2) else (0, 0, 0)
theorem need_cases (op : Int) : need op = (0, 1, 1) ∨ need op = (0, 2, 2) ∨ need op = (1, 1, 1) ∨ need op = (1, 2, 2) ∨ need op = (2, 1, 1) ∨ need op = (2, 1, 2) ∨ need op = (2, 2, 2) ∨ need op = (0, 0, 0) := by
  unfold need
  repeat' split
  all_goals simp
theorem spec_l2Need_eq (op : Int) (k : Nat) (hk : 1 ≤ k) : spec_l2Need.f k op = some (need op) := by
  obtain ⟨k, rfl⟩ : ∃ m, k = m + 1 := ⟨k - 1, by omega⟩
  unfold spec_l2Need.f need
  simp only [spec_l2Need.j0, spec_l1In.f]
  by_cases h1 : op = 1
  · simp [h1]
  · by_cases h2 : op = 2
    · simp [h2]
    · by_cases h3 : op = 20
      · simp [h3]
      · by_cases h4 : op = 13
        · simp [h4]
        · by_cases h5 : op = 19
          · simp [h5]
          · by_cases h6 : 3 ≤ op
            · by_cases h7 : op ≤ 12
              · simp [h1, h2, h3, h4, h5, h6, h7]
              · by_cases h8 : 14 ≤ op
                · by_cases h9 : op ≤ 16
                  · simp [h1, h2, h3, h4, h5, h6, h7, h8, h9]
                  · by_cases h10 : op = 17
                    · simp [h10]
                    · by_cases h11 : op = 18
                      · simp [h11]
                      · simp [h1, h2, h3, h4, h5, h6, h7, h8, h9, h10, h11]
                · have h10 : ¬ op = 17 := by omega
                  have h11 : ¬ op = 18 := by omega
                  simp [h1, h2, h3, h4, h5, h6, h7, h8, h10, h11]
            · have h8 : ¬ 14 ≤ op := by omega
              have h10 : ¬ op = 17 := by omega
              have h11 : ¬ op = 18 := by omega
              simp [h1, h2, h3, h4, h5, h6, h8, h10, h11]
def needI (op : Int) : Int × Int × Int := if op = 1 ∨ op = 2 then (0, 0, 1) else if op = 20 then (0, 0, 2) else need op
theorem impl_operandsOf_eq (op : Int) (k : Nat) (hk : 3 ≤ k) : impl_operandsOf.f k op = some (needI op) := by
  obtain ⟨k, rfl⟩ : ∃ m, k = m + 3 := ⟨k - 3, by omega⟩
  unfold impl_operandsOf.f needI need
  simp only [impl_operandsOf.j0, impl_operandsOf.j1, impl_operandsOf.j2]
  by_cases h1 : op = 1
  · simp [h1]
  · by_cases h2 : op = 2
    · simp [h2]
    · by_cases h3 : op = 20
      · simp [h3]
      · by_cases h4 : op = 13
        · simp [h4]
        · by_cases h5 : op = 19
          · simp [h5]
          · by_cases h6 : 3 ≤ op
            · by_cases h7 : op ≤ 12
              · simp [h1, h2, h3, h4, h5, h6, h7]
              · by_cases h8 : 14 ≤ op
                · by_cases h9 : op ≤ 16
                  · simp [h1, h2, h3, h4, h5, h6, h7, h8, h9]
                  · by_cases h10 : op = 17
                    · simp [h10]
                    · by_cases h11 : op = 18
                      · simp [h11]
                      · simp [h1, h2, h3, h4, h5, h6, h7, h8, h9, h10, h11]
                · have h10 : ¬ op = 17 := by omega
                  have h11 : ¬ op = 18 := by omega
                  simp [h1, h2, h3, h4, h5, h6, h7, h8, h10, h11]
            · have h8 : ¬ 14 ≤ op := by omega
              have h10 : ¬ op = 17 := by omega
              have h11 : ¬ op = 18 := by omega
              simp [h1, h2, h3, h4, h5, h6, h8, h10, h11]
theorem needI_parts (op : Int) : (needI op).1 = (need op).1 ∧ (needI op).2.2 = (need op).2.2 ∧ ((need op).1 = 0 ∨ (needI op).2.1 = (need op).2.1) := by
  unfold needI
  by_cases h1 : op = 1 ∨ op = 2
  · simp [need, h1]
  · by_cases h2 : op = 20
    · simp [need, h2]
    · simp [h1, h2]
def leafOk (wide vars op n : Int) : Bool := if op = 1 then goodWord wide n else if op = 2 then decide (n < vars) else if op = 20 then decide (n < 2) else n == 0
theorem spec_l2N_eq (wide vars op n : Int) (hv : 0 ≤ vars ∧ vars ≤ 4) (h0 : 0 ≤ n) (h1 : n < 18446744073709551616) (k : Nat) (hk : 64 < k) : spec_l2N.f k wide vars op n = some (leafOk wide vars op n) := by
  unfold spec_l2N.f leafOk
  rw [spec_GoodWord_eq wide n h0 h1 k hk, wrapU64_in (by omega) (by omega)]
  by_cases a1 : op = 1
  · simp [a1]
  · by_cases a2 : op = 2
    · simp [a2]
    · by_cases a3 : op = 20
      · simp [a3]
      · simp [a1, a2, a3]
theorem impl_isLeafRight_eq (wide vars op n : Int) (hv : 0 ≤ vars ∧ vars ≤ 4) (h0 : 0 ≤ n) (h1 : n < 18446744073709551616) : impl_isLeafRight.f wide vars op n = some (leafOk wide vars op n) := by
  unfold impl_isLeafRight.f leafOk
  rw [impl_GoodWord_eq wide n h0 h1, wrapU64_in (by omega) (by omega)]
  by_cases a1 : op = 1
  · simp [a1]
  · by_cases a2 : op = 2
    · simp [a2]
    · by_cases a3 : op = 20
      · simp [a3]
        omega
      · simp [a1, a2, a3]
def kstep (wide vars : Int) (st : List Int) (x : S161) : Option (List Int) :=
  if (need x.f0).2.2 = 0 then none else if leafOk wide vars x.f0 x.f1 = true then
    (if (st.length : Int) < (need x.f0).1 then none else if (st.drop (st.length - (need x.f0).1.toNat)).all (fun y => y == (need x.f0).2.1) = true then some (st.take (st.length - (need x.f0).1.toNat) ++ [(need x.f0).2.2]) else none)
  else none
def kfold (wide vars : Int) : List S161 → List Int → Option (List Int)
  | [], st => some st
  | x :: xs, st => (kstep wide vars st x).bind (kfold wide vars xs)
def kindT (wide vars : Int) (t : List S161) : Int :=
  if 1 ≤ wide ∧ wide ≤ 64 ∧ 1 ≤ vars ∧ vars ≤ 4 ∧ 1 ≤ t.length ∧ t.length ≤ 48 then (match kfold wide vars t [] with | some [a] => a | _ => 0) else 0
theorem spec_l2Kind_l1 (wide vars part own n i : Int) (t : List S161) (m : Nat) : ∀ (k : Nat) (st : List Int), m ≤ st.length → st.length < 1000 →
    spec_l2Kind.l1 (k + m + 1) wide vars st (m : Int) part own t n i = if (st.drop (st.length - m)).all (fun y => y == part) = true then spec_l2Kind.l0 k wide vars (st.take (st.length - m) ++ [own]) t n (wrap64 (i + 1)) else some 0 := by
  induction m with
  | zero =>
    intro k st hm hs
    simp only [Nat.add_zero, spec_l2Kind.l1]
    rw [if_neg (by omega), if_pos (by omega)]
    simp
  | succ m ih =>
    intro k st hm hs
    rcases List.eq_nil_or_concat st with rfl | ⟨st', a, rfl⟩
    · simp at hm
    · rw [List.concat_eq_append] at *
      rw [show k + (m + 1) + 1 = (k + m + 1) + 1 by omega]
      generalize hK : k + m + 1 = K
      simp only [spec_l2Kind.l1, List.length_append, List.length_singleton] at hm hs ⊢
      have e1 : wrap64 (((st'.length + 1 : Nat) : Int) - 1) = (st'.length : Int) := by rw [wrap64_in (by omega) (by omega)]; omega
      have e2 : wrap64 (((m + 1 : Nat) : Int) - 1) = (m : Int) := by rw [wrap64_in (by omega) (by omega)]; omega
      have e3 : rd (st' ++ [a]) (st'.length : Int) = a := by
        rw [rd_at _ _ (by simp)]
        simp
      have e4 : (st' ++ [a]).take st'.length = st' := List.take_left' rfl
      rw [e1, e2, e3, if_pos (by omega), if_pos (by omega), if_pos (by omega), if_pos (show (st'.length : Int) ≤ ((st'.length + 1 : Nat) : Int) by omega), Int.toNat_natCast, e4,
        show st'.length + 1 - (m + 1) = st'.length - m by omega, List.drop_append_of_le_length (by omega), List.all_append, List.take_append_of_le_length (by omega)]
      by_cases ha : a = part
      · rw [if_pos ha, ← hK, ih k st' (by omega) (by omega)]
        simp [ha]
      · rw [if_neg ha]
        simp [ha]
theorem spec_l2Kind_l0 (wide vars : Int) (t : List S161) (ht : t.length ≤ 48) (hv : 0 ≤ vars ∧ vars ≤ 4) (hw : ∀ x ∈ t, U64 x.f1) (d : Nat) : ∀ (i k : Nat) (st : List Int), i + d = t.length → 100 + 5 * d ≤ k → st.length ≤ i →
    spec_l2Kind.l0 k wide vars st t (t.length : Int) (i : Int) = some (match kfold wide vars (t.drop i) st with | some [a] => a | _ => 0) := by
  induction d with
  | zero =>
    intro i k st hi hk hs
    obtain ⟨k, rfl⟩ : ∃ m, k = m + 1 := ⟨k - 1, by omega⟩
    simp only [spec_l2Kind.l0]
    rw [if_neg (by omega), List.drop_of_length_le (by omega)]
    simp only [kfold]
    match st with
    | [] => simp
    | [a] => simp [rd]
    | a :: b :: st =>
      simp
      intro h
      omega
  | succ d ih =>
    intro i k st hi hk hs
    obtain ⟨k, rfl⟩ : ∃ m, k = m + 5 := ⟨k - 5, by omega⟩
    have hlt : i < t.length := by omega
    have hx := hw _ (List.getElem_mem hlt)
    simp only [spec_l2Kind.l0]
    rw [if_pos (by omega), if_pos (by omega), if_pos (by omega), show rd_T161 t (i : Int) = t[i] from getD_at t _ i hlt, spec_l2Need_eq _ _ (by omega), List.drop_eq_getElem_cons hlt]
    simp only [Option.bind_some, kfold, kstep]
    rw [spec_l2N_eq wide vars _ _ hv hx.1 hx.2 _ (by omega)]
    by_cases h0 : (need t[i].f0).2.2 = 0
    · simp [h0, spec_l2Kind.j2]
    · simp only [if_neg h0, Option.bind_some]
      cases hl : leafOk wide vars t[i].f0 t[i].f1 with
      | false => simp [spec_l2Kind.j2]
      | true =>
        simp only [if_true, spec_l2Kind.j2]
        by_cases hn : (st.length : Int) < (need t[i].f0).1
        · simp [hn]
        · simp only [hn, decide_false, if_false, Bool.false_eq_true]
          obtain ⟨m, hm⟩ : ∃ m : Nat, (need t[i].f0).1 = (m : Int) ∧ m ≤ 2 := by
            rcases need_cases t[i].f0 with h | h | h | h | h | h | h | h <;> rw [h]
            · exact ⟨0, rfl, by omega⟩
            · exact ⟨0, rfl, by omega⟩
            · exact ⟨1, rfl, by omega⟩
            · exact ⟨1, rfl, by omega⟩
            · exact ⟨2, rfl, by omega⟩
            · exact ⟨2, rfl, by omega⟩
            · exact ⟨2, rfl, by omega⟩
            · exact ⟨0, rfl, by omega⟩
          rw [hm.1] at hn ⊢
          rw [Int.toNat_natCast, show k + 3 = (k + 2 - m) + m + 1 by omega, spec_l2Kind_l1 wide vars _ _ _ _ t m _ st (by omega) (by omega)]
          by_cases ha : (st.drop (st.length - m)).all (fun y => y == (need t[i].f0).2.1) = true
          · rw [if_pos ha, if_pos ha, up1 i (by omega)]
            rw [ih (i + 1) _ _ (by omega) (by omega) (by simp; omega)]
            rfl
          · rw [if_neg ha, if_neg ha]
            rfl
theorem spec_l2Kind_eq (wide vars : Int) (t : List S161) (hw : ∀ x ∈ t, U64 x.f1) (k : Nat) (hk : 400 ≤ k) : spec_l2Kind.f k wide vars t = some (kindT wide vars t) := by
  obtain ⟨k, rfl⟩ : ∃ m, k = m + 1 := ⟨k - 1, by omega⟩
  unfold spec_l2Kind.f spec_l1Wide.f spec_l1In.f kindT
  simp only [spec_l2Kind.j0]
  by_cases h1 : wide ≥ 1
  · by_cases h2 : wide ≤ 64
    · by_cases h3 : vars ≥ 1
      · by_cases h4 : vars ≤ 4
        · by_cases h5 : (t.length : Int) ≥ 1
          · by_cases h6 : (t.length : Int) ≤ 48
            · have hc : 1 ≤ wide ∧ wide ≤ 64 ∧ 1 ≤ vars ∧ vars ≤ 4 ∧ 1 ≤ t.length ∧ t.length ≤ 48 := by omega
              have := spec_l2Kind_l0 wide vars t (by omega) (by omega) hw t.length 0 k [] (by omega) (by omega) (by simp)
              rw [if_pos hc]
              simpa [h1, h2, h3, h4, h5, h6] using this
            · have hc : ¬ (1 ≤ wide ∧ wide ≤ 64 ∧ 1 ≤ vars ∧ vars ≤ 4 ∧ 1 ≤ t.length ∧ t.length ≤ 48) := by omega
              rw [if_neg hc]
              simp [h1, h2, h3, h4, h5, h6]
          · have hc : ¬ (1 ≤ wide ∧ wide ≤ 64 ∧ 1 ≤ vars ∧ vars ≤ 4 ∧ 1 ≤ t.length ∧ t.length ≤ 48) := by omega
            rw [if_neg hc]
            simp [h1, h2, h3, h4, h5]
        · have hc : ¬ (1 ≤ wide ∧ wide ≤ 64 ∧ 1 ≤ vars ∧ vars ≤ 4 ∧ 1 ≤ t.length ∧ t.length ≤ 48) := by omega
          rw [if_neg hc]
          simp [h1, h2, h3, h4]
      · have hc : ¬ (1 ≤ wide ∧ wide ≤ 64 ∧ 1 ≤ vars ∧ vars ≤ 4 ∧ 1 ≤ t.length ∧ t.length ≤ 48) := by omega
        rw [if_neg hc]
        simp [h1, h2, h3]
    · have hc : ¬ (1 ≤ wide ∧ wide ≤ 64 ∧ 1 ≤ vars ∧ vars ≤ 4 ∧ 1 ≤ t.length ∧ t.length ≤ 48) := by omega
      rw [if_neg hc]
      simp [h1, h2]
  · have hc : ¬ (1 ≤ wide ∧ wide ≤ 64 ∧ 1 ≤ vars ∧ vars ≤ 4 ∧ 1 ≤ t.length ∧ t.length ≤ 48) := by omega
    rw [if_neg hc]
    simp [h1]
theorem slices_ContainsFunc_of_impl_GoodTerm_1_eq (l : List Int) (a : Int) (hl : l.length ≤ 1000) (k : Nat) (hk : 1000 < k) : slices_ContainsFunc_of_impl_GoodTerm_1.f k l a = some (l.any fun y => y != a) := by
  unfold slices_ContainsFunc_of_impl_GoodTerm_1.f slices_IndexFunc_of_impl_GoodTerm_1.f
  have := loop_find l (fun y => y != a) (fun k i => slices_IndexFunc_of_impl_GoodTerm_1.l0 k l (l.length : Int) i a) 0 (fun k i h _ => by
    simp only [slices_IndexFunc_of_impl_GoodTerm_1.l0, impl_GoodTerm_1.f]
    rw [if_pos (by omega), if_pos (by omega), if_pos (by omega), rd_at l i h, up1 i (by omega)]
    simp only [Option.bind_some]) (fun k _ => by
    simp only [slices_IndexFunc_of_impl_GoodTerm_1.l0]
    rw [if_neg (by omega)]) k (by omega)
  rw [this]
  simp only [Option.bind_some, find_nonneg]
theorem kfold_last (wide vars : Int) : ∀ (xs : List S161) (st r : List Int), kfold wide vars xs st = some r → ∀ h : xs ≠ [], (∃ r', r = r' ++ [(need (xs.getLast h).f0).2.2]) ∧ (need (xs.getLast h).f0).2.2 ≠ 0 := by
  intro xs
  induction xs with
  | nil => intro st r _ h; exact absurd rfl h
  | cons x xs ih =>
    intro st r hr h
    simp only [kfold, Option.bind_eq_some_iff] at hr
    obtain ⟨s, h1, h2⟩ := hr
    cases xs with
    | nil =>
      simp only [kfold, Option.some.injEq] at h2
      subst h2
      simp only [List.getLast_singleton]
      unfold kstep at h1
      split at h1
      · simp at h1
      · rename_i hne
        split at h1
        · split at h1
          · simp at h1
          · split at h1
            · simp only [Option.some.injEq] at h1
              exact ⟨⟨_, h1.symm⟩, hne⟩
            · simp at h1
        · simp at h1
    | cons y ys =>
      have := ih s r h2 (by simp)
      rwa [List.getLast_cons (by simp)]
theorem impl_GoodTerm_l0 (wide vars : Int) (t : List S161) (ht : t.length ≤ 48) (hv : 0 ≤ vars ∧ vars ≤ 4) (hw : ∀ x ∈ t, U64 x.f1) (d : Nat) : ∀ (i k : Nat) (st : List Int), i + d = t.length → 1010 + d ≤ k → st.length ≤ i →
    impl_GoodTerm.l0 k wide vars st t (t.length : Int) (i : Int) = some (match kfold wide vars (t.drop i) st with | some s => (s.length : Int) == 1 | none => false) := by
  induction d with
  | zero =>
    intro i k st hi hk hs
    obtain ⟨k, rfl⟩ : ∃ m, k = m + 1 := ⟨k - 1, by omega⟩
    simp only [impl_GoodTerm.l0]
    rw [if_neg (by omega), List.drop_of_length_le (by omega)]
    simp only [kfold]
  | succ d ih =>
    intro i k st hi hk hs
    obtain ⟨k, rfl⟩ : ∃ m, k = m + 1 := ⟨k - 1, by omega⟩
    have hlt : i < t.length := by omega
    have hx := hw _ (List.getElem_mem hlt)
    obtain ⟨p1, p2, p3⟩ := needI_parts t[i].f0
    simp only [impl_GoodTerm.l0]
    rw [if_pos (by omega), if_pos (by omega), if_pos (by omega), show rd_T161 t (i : Int) = t[i] from getD_at t _ i hlt, impl_operandsOf_eq _ _ (by omega), List.drop_eq_getElem_cons hlt]
    simp only [Option.bind_some, kfold]
    rw [impl_isLeafRight_eq wide vars _ _ hv hx.1 hx.2, p1, p2]
    obtain ⟨m, hm⟩ : ∃ m : Nat, (need t[i].f0).1 = (m : Int) ∧ m ≤ 2 := by
      rcases need_cases t[i].f0 with h | h | h | h | h | h | h | h <;> rw [h]
      · exact ⟨0, rfl, by omega⟩
      · exact ⟨0, rfl, by omega⟩
      · exact ⟨1, rfl, by omega⟩
      · exact ⟨1, rfl, by omega⟩
      · exact ⟨2, rfl, by omega⟩
      · exact ⟨2, rfl, by omega⟩
      · exact ⟨2, rfl, by omega⟩
      · exact ⟨0, rfl, by omega⟩
    rw [hm.1]
    by_cases h0 : (need t[i].f0).2.2 = 0
    · simp [h0, kstep]
    · rw [if_neg h0]
      cases hl : leafOk wide vars t[i].f0 t[i].f1 with
      | false => simp [kstep, hl, h0]
      | true =>
        simp only [if_true, Option.bind_some]
        by_cases hn : (st.length : Int) < (m : Int)
        · have e : wrap64 ((st.length : Int) - (m : Int)) < 0 := by rw [wrap64_in (by omega) (by omega)]; omega
          rw [if_pos e]
          simp [kstep, hl, h0, hm.1, hn]
        · have e : wrap64 ((st.length : Int) - (m : Int)) = ((st.length - m : Nat) : Int) := by rw [wrap64_in (by omega) (by omega)]; omega
          rw [e, if_neg (by omega), if_pos (by omega), if_pos (by omega), Int.toNat_natCast, slices_ContainsFunc_of_impl_GoodTerm_1_eq _ _ (by simp; omega) _ (by omega)]
          have ek : kstep wide vars st t[i] = if (st.drop (st.length - m)).all (fun y => y == (need t[i].f0).2.1) = true then some (st.take (st.length - m) ++ [(need t[i].f0).2.2]) else none := by
            unfold kstep
            rw [if_neg h0, if_pos hl, hm.1, if_neg hn, Int.toNat_natCast]
          have ea : (st.drop (st.length - m)).any (fun y => y != (needI t[i].f0).2.1) = !(st.drop (st.length - m)).all (fun y => y == (need t[i].f0).2.1) := by
            rcases p3 with p3 | p3
            · have : m = 0 := by omega
              subst this
              simp
            · rw [p3, List.not_all_eq_any_not]
              rfl
          rw [ek, ea]
          simp only [Option.bind_some]
          cases ha : (st.drop (st.length - m)).all (fun y => y == (need t[i].f0).2.1) with
          | false => simp
          | true =>
            simp only [Bool.not_true, Bool.false_eq_true, if_false, if_true, Option.bind_some]
            rw [if_pos (by simp; omega), up1 i (by omega), ih (i + 1) k _ (by omega) (by omega) (by simp; omega)]
theorem impl_GoodTerm_eq (wide vars : Int) (t : List S161) (hw : ∀ x ∈ t, U64 x.f1) (k : Nat) (hk : 1100 ≤ k) : impl_GoodTerm.f k wide vars t = some (kindT wide vars t != 0) := by
  obtain ⟨k, rfl⟩ : ∃ m, k = m + 1 := ⟨k - 1, by omega⟩
  unfold impl_GoodTerm.f impl_isWide.f impl_isVars.f kindT
  simp only [impl_GoodTerm.j0]
  by_cases hc : 1 ≤ wide ∧ wide ≤ 64 ∧ 1 ≤ vars ∧ vars ≤ 4 ∧ 1 ≤ t.length ∧ t.length ≤ 48
  · have h1 : wide ≥ 1 := by omega
    have h2 : wide ≤ 64 := by omega
    have h3 : vars ≥ 1 := by omega
    have h4 : vars ≤ 4 := by omega
    have h5 : ¬ (t.length : Int) < 1 := by omega
    have h6 : ¬ (t.length : Int) > 48 := by omega
    have := impl_GoodTerm_l0 wide vars t (by omega) (by omega) hw t.length 0 k [] (by omega) (by omega) (by simp)
    rw [if_pos hc]
    simp only [h1, h2, h3, h4, h5, h6, if_true, if_false, decide_true, decide_false, Option.bind_some, Bool.false_eq_true]
    rw [show (0 : Int) = ((0 : Nat) : Int) from rfl, this]
    congr 1
    simp only [List.drop_zero]
    cases hf : kfold wide vars t [] with
    | none => rfl
    | some s =>
      obtain ⟨⟨r', e⟩, hne⟩ := kfold_last wide vars t [] s hf (by intro h; simp [h] at hc)
      match s, e with
      | [], e => rfl
      | [a], e =>
        have : a ≠ 0 := by
          have hr : r' = [] := by
            have := congrArg List.length e
            simp at this
            exact this
          subst hr
          simp at e
          rw [e]
          exact hne
        simp [this]
      | a :: b :: c, e =>
        simp
        omega
  · rw [if_neg hc]
    by_cases h1 : wide ≥ 1
    · by_cases h2 : wide ≤ 64
      · by_cases h3 : vars ≥ 1
        · by_cases h4 : vars ≤ 4
          · by_cases h5 : (t.length : Int) < 1
            · simp [h1, h2, h3, h4, h5]
            · have h6 : (t.length : Int) > 48 := by omega
              simp [h1, h2, h3, h4, h5, h6]
          · simp [h1, h2, h3, h4]
        · simp [h1, h2, h3]
      · simp [h1, h2]
    · simp [h1]
theorem impl_isTermOf_eq (wide vars kd : Int) (t : List S161) (hw : ∀ x ∈ t, U64 x.f1) (h0 : kd ≠ 0) (k : Nat) (hk : 1100 ≤ k) : impl_isTermOf.f k wide vars t kd = some (kindT wide vars t == kd) := by
  unfold impl_isTermOf.f
  rw [impl_GoodTerm_eq wide vars t hw k hk]
  simp only [Option.bind_some]
  by_cases hz : kindT wide vars t = 0
  · have : ¬ kindT wide vars t = kd := by omega
    simp only [hz] at this ⊢
    simp [this]
  · have hne : t ≠ [] := by
      intro h
      subst h
      apply hz
      simp [kindT]
    have hl : 0 < t.length := List.length_pos_iff.2 hne
    have hl2 : t.length ≤ 48 := by
      unfold kindT at hz
      split at hz
      · omega
      · exact absurd rfl hz
    have e : wrap64 ((t.length : Int) - 1) = ((t.length - 1 : Nat) : Int) := by rw [wrap64_in (by omega) (by omega)]; omega
    have hk' : impl_kindOf.f k t = some (need (t.getLast hne).f0).2.2 := by
      unfold impl_kindOf.f
      rw [e, if_pos (by omega), if_pos (by omega), show rd_T161 t ((t.length - 1 : Nat) : Int) = t[t.length - 1] from getD_at t _ _ (by omega), impl_operandsOf_eq _ _ (by omega)]
      simp only [Option.bind_some, (needI_parts _).2.1, List.getLast_eq_getElem]
    have hkk : kindT wide vars t = (need (t.getLast hne).f0).2.2 := by
      unfold kindT at hz ⊢
      split
      · rename_i hc
        rw [if_pos hc] at hz
        cases hf : kfold wide vars t [] with
        | none => rw [hf] at hz; exact absurd rfl hz
        | some s =>
          obtain ⟨⟨r', e⟩, _⟩ := kfold_last wide vars t [] s hf hne
          rw [hf] at hz
          match s, e with
          | [], e => exact absurd rfl hz
          | [a], e =>
            have hr : r' = [] := by
              have := congrArg List.length e
              simp at this
              exact this
            subst hr
            simpa using e
          | a :: b :: c, e => exact absurd rfl hz
      · rename_i hc
        rw [if_neg hc] at hz
        exact absurd rfl hz
    rw [hk', hkk]
    rw [hkk] at hz
    simp [hz]
def chgOk (wide vars : Int) : Int → List S229 → Bool
  | _, [] => true
  | p, c :: cs => decide (p < c.f0) && decide (c.f0 < vars) && (kindT wide vars c.f1 == 1) && chgOk wide vars c.f0 cs
theorem chgOk_len (wide vars : Int) : ∀ (l : List S229) (p : Int), p < vars → chgOk wide vars p l = true → p + (l.length : Int) < vars := by
  intro l
  induction l with
  | nil => intro p h _; simpa using h
  | cons c cs ih =>
    intro p h hc
    simp only [chgOk, Bool.and_eq_true, decide_eq_true_eq] at hc
    have := ih c.f0 hc.1.1.2 hc.2
    simp only [List.length_cons]
    omega
def cmdOk (wide vars : Int) (g : List S161) (l : List S229) : Bool := (kindT wide vars g == 2) && chgOk wide vars (-1) l
def before (l : List S229) (i : Nat) : Int := if i = 0 then -1 else (l.getD (i - 1) z229).f0
theorem before_succ (l : List S229) (i : Nat) (h : i < l.length) : before l (i + 1) = l[i].f0 := by
  simp [before, h]
theorem spec_l7Command_l0 (wide vars : Int) (st : List S161) (cm : List S183) (g : List S161) (l : List S229) (hl : l.length ≤ 1048576) (hv : 1 ≤ vars ∧ vars ≤ 4) (hw : ∀ c ∈ l, ∀ x ∈ c.f1, U64 x.f1) (d : Nat) : ∀ (i k : Nat), i + d = l.length → 500 + 2 * d ≤ k → -1 ≤ before l i →
    spec_l7Command.l0 k l (l.length : Int) (i : Int) wide vars st cm g l = some (chgOk wide vars (before l i) (l.drop i)) := by
  induction d with
  | zero =>
    intro i k hi hk hb0
    obtain ⟨k, rfl⟩ : ∃ m, k = m + 1 := ⟨k - 1, by omega⟩
    simp only [spec_l7Command.l0]
    rw [if_neg (by omega), List.drop_of_length_le (by omega)]
    rfl
  | succ d ih =>
    intro i k hi hk hb0
    obtain ⟨k, rfl⟩ : ∃ m, k = m + 2 := ⟨k - 2, by omega⟩
    have hlt : i < l.length := by omega
    have hx := hw _ (List.getElem_mem hlt)
    have e0 : rd_T229 l (i : Int) = l[i] := getD_at l _ i hlt
    have e1 : wrap64 (vars - 1) = vars - 1 := wrap64_in (by omega) (by omega)
    rw [List.drop_eq_getElem_cons hlt]
    simp only [spec_l7Command.l0, spec_l7Command.j2, spec_l1In.f, e0, e1, chgOk]
    rw [if_pos (by omega), if_pos (by omega), if_pos (by omega), up1 i (by omega), spec_l2Kind_eq wide vars _ hx _ (by omega)]
    by_cases h1 : l[i].f0 ≥ 0
    · have go := ih (i + 1) k (by omega) (by omega) (by rw [before_succ l i hlt]; omega)
      rw [before_succ l i hlt] at go
      rw [if_pos h1, go]
      by_cases h2 : l[i].f0 ≤ vars - 1
      · have h3 : l[i].f0 < vars := by omega
        simp only [h2, h3, decide_true, Option.bind_some, if_true, Bool.and_true]
        by_cases hi0 : i = 0
        · subst hi0
          rw [if_neg (by omega)]
          have : before l 0 < l[0].f0 := by simp only [before, if_true]; omega
          simp [this]
          by_cases hk1 : kindT wide vars l[0].f1 = 1 <;> simp [hk1]
        · have hb : before l i = l[i - 1].f0 := by
            simp only [before, if_neg hi0]
            rw [List.getD_eq_getElem?_getD]
            simp [show i - 1 < l.length by omega]
          have e2 : wrap64 ((i : Int) - 1) = ((i - 1 : Nat) : Int) := by rw [wrap64_in (by omega) (by omega)]; omega
          rw [if_pos (by omega), e2, if_pos (by omega), if_pos (by omega), show rd_T229 l ((i - 1 : Nat) : Int) = l[i - 1] from getD_at l _ _ (by omega), hb]
          by_cases h4 : l[i - 1].f0 ≥ l[i].f0
          · have : ¬ l[i - 1].f0 < l[i].f0 := by omega
            simp [h4, this]
          · have h5 : l[i - 1].f0 < l[i].f0 := by omega
            simp [h4, h5]
            by_cases hk1 : kindT wide vars l[i].f1 = 1 <;> simp [hk1]
      · have h3 : ¬ l[i].f0 < vars := by omega
        simp [h2, h3]
    · rw [if_neg h1]
      have hb : ¬ before l i < l[i].f0 := by omega
      simp [hb]
theorem spec_l7Command_eq (wide vars : Int) (st : List S161) (cm : List S183) (g : List S161) (l : List S229) (hl : l.length ≤ 1048576) (hg : ∀ x ∈ g, U64 x.f1) (hw : ∀ c ∈ l, ∀ x ∈ c.f1, U64 x.f1) (k : Nat) (hk : 3000000 ≤ k) :
    spec_l7Command.f k wide vars st cm g l = some (cmdOk wide vars g l) := by
  obtain ⟨k, rfl⟩ : ∃ m, k = m + 1 := ⟨k - 1, by omega⟩
  unfold spec_l7Command.f spec_l7Asks.f cmdOk
  rw [spec_l2Kind_eq wide vars g hg _ (by omega)]
  simp only [Option.bind_some, spec_l7Command.j0]
  by_cases h2 : kindT wide vars g = 2
  · have hv : 1 ≤ vars ∧ vars ≤ 4 := by
      unfold kindT at h2
      split at h2
      · omega
      · omega
    simp only [h2, beq_self_eq_true, if_true, Bool.true_and]
    by_cases hn : (l.length : Int) > vars
    · have : chgOk wide vars (-1) l = false := by
        cases hc : chgOk wide vars (-1) l with
        | false => rfl
        | true =>
          have := chgOk_len wide vars l (-1) (by omega) hc
          omega
      simp [hn, this]
    · simp only [hn, decide_false, Bool.false_eq_true, if_false]
      exact spec_l7Command_l0 wide vars st cm g l hl hv hw l.length 0 k (by omega) (by omega) (by simp [before])
  · simp [h2]
theorem impl_Program_isCommand_l0 (wide vars : Int) (st : List S161) (cm : List S183) (g : List S161) (l : List S229) (hl : l.length ≤ 1048576) (hw : ∀ c ∈ l, ∀ x ∈ c.f1, U64 x.f1) (d : Nat) : ∀ (i k : Nat), i + d = l.length → 1200 + 2 * d ≤ k → -1 ≤ before l i →
    impl_Program_isCommand.l0 k l (l.length : Int) (i : Int) wide vars st cm g l = some (chgOk wide vars (before l i) (l.drop i)) := by
  induction d with
  | zero =>
    intro i k hi hk hb0
    obtain ⟨k, rfl⟩ : ∃ m, k = m + 1 := ⟨k - 1, by omega⟩
    simp only [impl_Program_isCommand.l0]
    rw [if_neg (by omega), List.drop_of_length_le (by omega)]
    rfl
  | succ d ih =>
    intro i k hi hk hb0
    obtain ⟨k, rfl⟩ : ∃ m, k = m + 2 := ⟨k - 2, by omega⟩
    have hlt : i < l.length := by omega
    have hx := hw _ (List.getElem_mem hlt)
    have e0 : rd_T229 l (i : Int) = l[i] := getD_at l _ i hlt
    rw [List.drop_eq_getElem_cons hlt]
    simp only [impl_Program_isCommand.l0, impl_Program_isCommand.j1, e0, chgOk]
    rw [if_pos (by omega), if_pos (by omega), if_pos (by omega), up1 i (by omega), impl_isTermOf_eq wide vars 1 _ hx (by omega) _ (by omega)]
    by_cases h1 : l[i].f0 < 0
    · rw [if_pos h1]
      have hb : ¬ before l i < l[i].f0 := by omega
      simp [hb]
    · have go := ih (i + 1) k (by omega) (by omega) (by rw [before_succ l i hlt]; omega)
      rw [before_succ l i hlt] at go
      rw [if_neg h1, go]
      by_cases h2 : l[i].f0 ≥ vars
      · have h3 : ¬ l[i].f0 < vars := by omega
        simp [h2, h3]
      · have h3 : l[i].f0 < vars := by omega
        rw [if_neg h2]
        simp only [h3, decide_true, Option.bind_some, Bool.and_true]
        by_cases hi0 : i = 0
        · subst hi0
          rw [if_neg (by omega)]
          have : before l 0 < l[0].f0 := by simp only [before, if_true]; omega
          simp [this]
          by_cases hk1 : kindT wide vars l[0].f1 = 1 <;> simp [hk1]
        · have hb : before l i = l[i - 1].f0 := by
            simp only [before, if_neg hi0]
            rw [List.getD_eq_getElem?_getD]
            simp [show i - 1 < l.length by omega]
          have e2 : wrap64 ((i : Int) - 1) = ((i - 1 : Nat) : Int) := by rw [wrap64_in (by omega) (by omega)]; omega
          rw [if_pos (by omega), e2, if_pos (by omega), if_pos (by omega), show rd_T229 l ((i - 1 : Nat) : Int) = l[i - 1] from getD_at l _ _ (by omega), hb]
          by_cases h4 : l[i - 1].f0 ≥ l[i].f0
          · have : ¬ l[i - 1].f0 < l[i].f0 := by omega
            simp [h4, this]
          · have h5 : l[i - 1].f0 < l[i].f0 := by omega
            simp [h4, h5]
            by_cases hk1 : kindT wide vars l[i].f1 = 1 <;> simp [hk1]
theorem impl_Program_isCommand_eq (wide vars : Int) (st : List S161) (cm : List S183) (g : List S161) (l : List S229) (hl : l.length ≤ 1048576) (hg : ∀ x ∈ g, U64 x.f1) (hw : ∀ c ∈ l, ∀ x ∈ c.f1, U64 x.f1) (k : Nat) (hk : 3000000 ≤ k) :
    impl_Program_isCommand.f k wide vars st cm g l = some (cmdOk wide vars g l) := by
  unfold impl_Program_isCommand.f impl_Program_isCondition.f cmdOk
  rw [impl_isTermOf_eq wide vars 2 g hg (by omega) _ (by omega)]
  simp only [Option.bind_some]
  by_cases h2 : kindT wide vars g = 2
  · simp only [h2, beq_self_eq_true, if_true, Bool.true_and]
    exact impl_Program_isCommand_l0 wide vars st cm g l hl hw l.length 0 k (by omega) (by omega) (by simp [before])
  · simp [h2]
def CommandsOk (cm : List S183) : Prop := cm.length ≤ 1048576 ∧ ∀ c ∈ cm, (∀ x ∈ c.f0, U64 x.f1) ∧ c.f1.length ≤ 1048576 ∧ ∀ d ∈ c.f1, ∀ x ∈ d.f1, U64 x.f1
def goodProgram (wide vars : Int) (st : List S161) (cm : List S183) : Bool := (kindT wide vars st == 2) && (decide (1 ≤ cm.length ∧ cm.length ≤ 6) && cm.all fun c => cmdOk wide vars c.f0 c.f1)
theorem kindT_in {wide vars : Int} {t : List S161} (h : kindT wide vars t ≠ 0) : 1 ≤ wide ∧ wide ≤ 64 ∧ 1 ≤ vars ∧ vars ≤ 4 ∧ 1 ≤ t.length ∧ t.length ≤ 48 := by
  unfold kindT at h
  split at h
  · assumption
  · exact absurd rfl h
theorem goodProgram_in {wide vars : Int} {st : List S161} {cm : List S183} (h : goodProgram wide vars st cm = true) : 1 ≤ wide ∧ wide ≤ 64 ∧ 1 ≤ vars ∧ vars ≤ 4 := by
  simp only [goodProgram, Bool.and_eq_true, beq_iff_eq] at h
  have := kindT_in (t := st) (by rw [h.1]; decide)
  omega
theorem spec_GoodProgram_eq (wide vars : Int) (st : List S161) (cm : List S183) (hs : ∀ x ∈ st, U64 x.f1) (hc : CommandsOk cm) (k : Nat) (hk : 5000000 ≤ k) : spec_GoodProgram.f k wide vars st cm = some (goodProgram wide vars st cm) := by
  obtain ⟨k, rfl⟩ : ∃ m, k = m + 1 := ⟨k - 1, by omega⟩
  have hl := hc.1
  have := loop_all cm (fun c => cmdOk wide vars c.f0 c.f1) true false (fun k i => spec_GoodProgram.l0 k cm (cm.length : Int) i wide vars st cm) 3000000 (fun k i h hk => by
    obtain ⟨w1, w2, w3⟩ := hc.2 _ (List.getElem_mem h)
    simp only [spec_GoodProgram.l0]
    rw [if_pos (by omega), if_pos (by omega), if_pos (by omega), show rd_T183 cm (i : Int) = cm[i] from getD_at cm _ i h, spec_l7Command_eq wide vars st cm _ _ w2 w1 w3 k hk]
    simp only [Option.bind_some]
    rw [up1 i (by omega)]) (fun k _ => by
    simp only [spec_GoodProgram.l0]
    rw [if_neg (by omega)]) k (by omega)
  unfold spec_GoodProgram.f spec_l7Asks.f spec_l1In.f goodProgram
  simp only [spec_GoodProgram.j0]
  rw [spec_l2Kind_eq wide vars st hs _ (by omega), this]
  simp only [Option.bind_some]
  by_cases h2 : kindT wide vars st = 2
  · by_cases h3 : (cm.length : Int) ≥ 1
    · by_cases h4 : (cm.length : Int) ≤ 6
      · have h5 : 1 ≤ cm.length ∧ cm.length ≤ 6 := by omega
        simp only [h2, h3, h4, h5, beq_self_eq_true, if_true, Option.bind_some, decide_true, Bool.not_true, Bool.false_eq_true, if_false, and_self, Bool.true_and]
        cases cm.all fun c => cmdOk wide vars c.f0 c.f1 <;> rfl
      · have h5 : ¬ (1 ≤ cm.length ∧ cm.length ≤ 6) := by omega
        simp [h2, h3, h4, h5]
    · have h5 : ¬ (1 ≤ cm.length ∧ cm.length ≤ 6) := by omega
      simp [h2, h3, h5]
  · simp [h2]
theorem impl_GoodProgram_eq (wide vars : Int) (st : List S161) (cm : List S183) (hs : ∀ x ∈ st, U64 x.f1) (hc : CommandsOk cm) (k : Nat) (hk : 5000000 ≤ k) : impl_GoodProgram.f k wide vars st cm = some (goodProgram wide vars st cm) := by
  have hl := hc.1
  have := loop_find cm (fun c => !cmdOk wide vars c.f0 c.f1) (fun k i => slices_IndexFunc_of_impl_GoodProgram_1.l0 k cm (cm.length : Int) i wide vars st cm) 3000000 (fun k i h hk => by
    obtain ⟨w1, w2, w3⟩ := hc.2 _ (List.getElem_mem h)
    simp only [slices_IndexFunc_of_impl_GoodProgram_1.l0, impl_GoodProgram_1.f]
    rw [if_pos (by omega), if_pos (by omega), if_pos (by omega), show rd_T183 cm (i : Int) = cm[i] from getD_at cm _ i h, impl_Program_isCommand_eq wide vars st cm _ _ w2 w1 w3 k hk]
    simp only [Option.bind_some]
    rw [up1 i (by omega)]) (fun k _ => by
    simp only [slices_IndexFunc_of_impl_GoodProgram_1.l0]
    rw [if_neg (by omega)]) k (by omega)
  have hn : (!cm.any fun c => !cmdOk wide vars c.f0 c.f1) = cm.all fun c => cmdOk wide vars c.f0 c.f1 := by rw [List.not_any_eq_all_not]; simp
  unfold impl_GoodProgram.f impl_isWide.f impl_isVars.f impl_Program_isCondition.f slices_ContainsFunc_of_impl_GoodProgram_1.f slices_IndexFunc_of_impl_GoodProgram_1.f goodProgram
  rw [impl_isTermOf_eq wide vars 2 st hs (by omega) _ (by omega), this]
  simp only [Option.bind_some, find_nonneg, hn]
  by_cases h2 : kindT wide vars st = 2
  · have hin := kindT_in (t := st) (by rw [h2]; decide)
    have a1 : wide ≥ 1 := by omega
    have a2 : wide ≤ 64 := by omega
    have a3 : vars ≥ 1 := by omega
    have a4 : vars ≤ 4 := by omega
    by_cases h3 : (cm.length : Int) < 1
    · have h5 : ¬ (1 ≤ cm.length ∧ cm.length ≤ 6) := by omega
      simp [h2, h3, h5, a1, a2, a3, a4]
    · by_cases h4 : (cm.length : Int) > 6
      · have h5 : ¬ (1 ≤ cm.length ∧ cm.length ≤ 6) := by omega
        simp [h2, h3, h4, h5, a1, a2, a3, a4]
      · have h5 : 1 ≤ cm.length ∧ cm.length ≤ 6 := by omega
        simp [h2, h3, h4, h5, a1, a2, a3, a4]
  · have hb : (kindT wide vars st == 2) = false := by simp [h2]
    rw [hb]
    by_cases a1 : wide ≥ 1 <;> by_cases a2 : wide ≤ 64 <;> by_cases a3 : vars ≥ 1 <;> by_cases a4 : vars ≤ 4 <;> simp [a1, a2, a3, a4]
def smallProgram (wide vars : Int) (st : List S161) (cm : List S183) : Bool := goodProgram wide vars st cm && decide (wide * vars ≤ 5)
theorem area_in {wide vars : Int} (h : 1 ≤ wide ∧ wide ≤ 64 ∧ 1 ≤ vars ∧ vars ≤ 4) : 1 ≤ wide * vars ∧ wide * vars ≤ 256 := by
  obtain ⟨h1, h2, h3, h4⟩ := h
  have a : 1 * 1 ≤ wide * vars := Int.mul_le_mul h1 h3 (by decide) (by omega)
  have b : wide * vars ≤ 64 * 4 := Int.mul_le_mul h2 h4 (by omega) (by decide)
  omega
theorem spec_l7Small_eq (wide vars : Int) (st : List S161) (cm : List S183) (hs : ∀ x ∈ st, U64 x.f1) (hc : CommandsOk cm) (k : Nat) (hk : 5000000 ≤ k) : spec_l7Small.f k wide vars st cm = some (smallProgram wide vars st cm) := by
  unfold spec_l7Small.f smallProgram
  rw [spec_GoodProgram_eq wide vars st cm hs hc k hk]
  simp only [Option.bind_some]
  cases hg : goodProgram wide vars st cm with
  | false => rfl
  | true =>
    have := area_in (goodProgram_in hg)
    rw [wrap64_in (by omega) (by omega)]
    simp
theorem impl_isSmall_eq (wide vars : Int) (st : List S161) (cm : List S183) (hs : ∀ x ∈ st, U64 x.f1) (hc : CommandsOk cm) (k : Nat) (hk : 5000000 ≤ k) : impl_isSmall.f k wide vars st cm = some (smallProgram wide vars st cm) := by
  unfold impl_isSmall.f smallProgram
  rw [impl_GoodProgram_eq wide vars st cm hs hc k hk]
  simp only [Option.bind_some]
  cases hg : goodProgram wide vars st cm with
  | false => rfl
  | true =>
    have := area_in (goodProgram_in hg)
    rw [wrap64_in (by omega) (by omega)]
    simp
theorem shl_one_i64 (i : Nat) (h : i < 63) : shl .i64 1 (i : Int) = ((2 ^ i : Nat) : Int) := by
  unfold shl
  have e : min ((i : Int)).toNat (IntKind.i64.bits) = i := by
    simp only [Int.toNat_natCast, IntKind.bits]
    omega
  rw [e, Int.one_mul]
  have h2 : (2 : Nat) ^ i < 2 ^ 63 := Nat.pow_lt_pow_right (by decide) h
  have h3 : ((2 ^ i : Nat) : Int) < ((2 ^ 63 : Nat) : Int) := by exact_mod_cast h2
  have h4 : (0 : Int) ≤ ((2 ^ i : Nat) : Int) := Int.natCast_nonneg _
  have : IntKind.i64.wrap ((2 : Int) ^ i) = wrap64 ((2 : Int) ^ i) := i64_w _
  rw [this, wrap64_in]
  · simp
  · simp at h4; omega
  · simpa using h3
theorem states_eq (wide vars : Int) (st : List S161) (cm : List S183) (h : 1 ≤ wide * vars ∧ wide * vars ≤ 5) :
    spec_l7Many.f wide vars st cm = some ((2 ^ (wide * vars).toNat : Nat) : Int) ∧ impl_Program_states.f wide vars st cm = some ((2 ^ (wide * vars).toNat : Nat) : Int) := by
  obtain ⟨n, hn⟩ := Int.eq_ofNat_of_zero_le (show 0 ≤ wide * vars by omega)
  unfold spec_l7Many.f impl_Program_states.f
  rw [hn] at h ⊢
  rw [wrap64_in (by omega) (by omega), wrapU64_in (by omega) (by omega), if_pos (by omega), shl_one_i64 n (by omega), Int.toNat_natCast]
  exact ⟨rfl, rfl⟩
theorem EnoughFor_eq (wide vars : Int) (st : List S161) (cm : List S183) (hs : ∀ x ∈ st, U64 x.f1) (hc : CommandsOk cm) (k : Nat) (hk : 5000000 ≤ k) :
    ∃ r, spec_EnoughFor.f k wide vars st cm = some r ∧ impl_EnoughFor.f k wide vars st cm = some r := by
  unfold spec_EnoughFor.f impl_EnoughFor.f
  rw [spec_l7Small_eq wide vars st cm hs hc k hk, impl_isSmall_eq wide vars st cm hs hc k hk]
  simp only [Option.bind_some]
  cases hg : smallProgram wide vars st cm with
  | false => exact ⟨_, rfl, rfl⟩
  | true =>
    simp only [smallProgram, Bool.and_eq_true, decide_eq_true_eq] at hg
    have := area_in (goodProgram_in hg.1)
    obtain ⟨e1, e2⟩ := states_eq wide vars st cm ⟨this.1, hg.2⟩
    rw [e1, e2]
    exact ⟨_, rfl, rfl⟩
theorem pure : laws_FnExactEnoughFor.Pure := by
  intro y w m2 m3
  refine ⟨5000001, ?_⟩
  unfold laws_FnExactEnoughFor.f
  obtain ⟨_, _, w2, w3⟩ := w
  obtain ⟨r, f1, f2, f3⟩ := laws_szProgram_eq y.f0 y.f1 y.f2 y.f3 m2 m3 w3.2 1048576 (by omega) (by omega) 5000001 (by omega)
  rw [f1]
  simp only [Option.bind_some]
  by_cases hr : r < 0
  · rw [if_pos hr]
  · have hs := f3 (by omega)
    rw [if_neg hr, laws_toProgram_eq y.f0 y.f1 y.f2 y.f3 hs _ (by omega)]
    simp only [Option.bind_some]
    obtain ⟨r, e1, e2⟩ := EnoughFor_eq y.f0 y.f1 (y.f2.map nodeOf) (y.f3.map commandOf) (fun x hx => nodeOf_ok w2.2 x hx) ⟨by simpa using hs.2.1, commandOf_ok y.f3 hs.2.1 hs.2.2 w3.2⟩ 5000001 (by omega)
    rw [e1, e2]
    simp only [Option.bind_some, if_true, bne_self_eq_false]
    rw [show (5000001 : Nat) = 5000000 + 1 from rfl]
    simp only [laws_FnExactEnoughFor.j0]
    rw [laws_toProgram_eq y.f0 y.f1 y.f2 y.f3 hs _ (by omega)]
    simp only [Option.bind_some]
    rw [laws_eqProgram_self y.f0 y.f1 y.f2 y.f3 hs _ (by omega)]
    simp
end Go.Proofs.Ytimoiblediffpaa.QFnExactEnoughFor
end
section
namespace Go.Proofs.Ytimoiblediffpaa.fnExactEnoughFor
open Go.ChangeShapes Go.WideShapes Go.ChangeAt Go.RowKit Go.Proofs.YtimoiblediffpaaW.PrintWords Go.Proofs.Ytimoiblediffpaa.Open Go.Proofs.Ytimoiblediffpaa.QFnExactEnoughFor
set_option linter.unusedVariables false
theorem own : ownKnob Try.prog.godebug = none := by kernel_rfl
theorem laidOut : laidOutB Try.prog = true := by kernel_rfl
set_option maxRecDepth 100000 in
theorem lifted (os : Os) (started : os.Started) (H : Type) (enc : TypeId × Value → H) :
    ReturnsInHanded {} Try.checked os 9 .any (Rows.fnExactEnoughForSpec.pre6 enc Try.prog Try.f9 Rows.fnExactEnoughForRow.domain false) (Rows.fnExactEnoughForSpec.post enc Try.prog Try.f9 false true false false) := by
  refine returnsInHanded_of_change_sized (C := Try.checked) own started (by kernel_rfl) Try.func9
    (ChangeSpec.witness6 (enc := enc) (C := Try.checked) false ⟨#[], #[.agg #[.int .i64 0, .int .i64 0, .slice none 0 0, .slice none 0 0]], []⟩ 8 (by kernel_rfl) (by kernel_rfl) (by kernel_rfl) (by kernel_rfl)) ?_
  intro W base args ds gs before hval0 hW hcnd hsz0 _
  have hval : ∀ (j : Nat) t v, Try.f9.params[j]? = some t → args[j]? = some v → Value.okWide Try.prog W .any base t v := hval0
  have hW' := hW
  obtain ⟨p, q, hA0, hV, rfl, hfz, hnd⟩ := hW
  have hA : DataW.TrodAll enc Try.prog W 0 (fun _ => true) true Try.f9.params.toList args.toList ds p := hA0
  rw [Try.params9] at hA hval
  obtain ⟨v0, vs0, d0, ds0, p0, q0, hargs, rfl, rfl, h0, r0⟩ := trodAll_cons hA
  obtain ⟨rfl, rfl, rfl⟩ := trodAll_nil r0
  obtain rfl : args = #[v0] := by cases args; simp_all
  obtain ⟨rfl, rfl⟩ := trodVars_none hV
  have lt0 : ∀ x ∈ p0, x.block < W.heap.size := by obtain ⟨m, hm⟩ := h0; exact DataW.trod_lt m _ _ _ hm
  have k0 := h0
  obtain ⟨y0, cs0, rfl, hK0, w0⟩ := open_struct Try.underlying70 opens70 (hval 0 70 v0 rfl rfl) h0
  obtain ⟨A0_2, c0_2, A0_3, c0_3, hcs0, hl0_2, hr0_2, hl0_3, hr0_3⟩ := k70_open hK0
  obtain rfl := arr_of hcs0
  have m0_2 := hr0_2.2.1
  have m0_3 := hr0_3.2.1
  obtain ⟨k, hk⟩ := pure y0 w0 m0_2 m0_3
  refine (laws_FnExactEnoughFor.calls k y0.f0 y0.f1 A0_2 c0_2 y0.f2 A0_3 c0_3 y0.f3 true W hr0_2 hl0_2 hr0_3 hl0_3 hk).mono fun e W' hp => ?_
  obtain ⟨rfl, bel0⟩ := hp
  have bel : Below W.heap.size W W' := by first | exact bel0 | exact bel0.below
  exact ⟨_, rfl, _, _, _, [], _, [], hW', trodAll_mk1 (shut_bool Try.underlying4 _), (trodAll_cons_mk (Below.trod laidOut (by kernel_rfl) (of_decide_eq_true (by kernel_rfl)) k0 bel lt0) trodAll_mk0), rfl, bel.frame _, fun h => by cases h⟩
theorem over : Rows.fnExactEnoughForRow.holds Try.pinned (OpenSpec.ofChange Rows.fnExactEnoughForSpec) :=
  OpenClaim.holds_of_wide 9 Try.f9 rfl rfl rfl rfl rfl rfl rfl ⟨rfl, rfl, rfl, rfl, rfl⟩ rfl rfl rfl rfl rfl (by kernel_rfl) Try.func9 (by kernel_rfl)
    (of_decide_eq_true (by kernel_rfl)) (by unfold Func.isWrapper; first | (rw [if_pos (by decide +kernel)]; kernel_rfl) | (rw [if_neg (by decide +kernel)]; exact ⟨rfl, rfl⟩))
    (fun os started H enc _ => lifted os started H enc)
theorem proved : Rows.FnExactEnoughForSaid := over
end Go.Proofs.Ytimoiblediffpaa.fnExactEnoughFor
namespace Go.Proofs.Ytimoiblediffpaa
theorem fnExactEnoughFor_holds : Rows.FnExactEnoughForSaid := fnExactEnoughFor.proved
end Go.Proofs.Ytimoiblediffpaa
end
