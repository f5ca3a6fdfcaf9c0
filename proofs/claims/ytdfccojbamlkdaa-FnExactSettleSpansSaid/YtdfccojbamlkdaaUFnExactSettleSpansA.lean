/- The plain law of FnExactSettleSpans: what the two functions compute is the same. -/
import Derived.Test.YtdfccojbamlkdaaEFnExactSettleSpans
import Derived.Laws.MathBits
set_option linter.all false
namespace Go.Proofs.Ytdfccojbamlkdaa.R
open Go.Rf
/-- The cut of the reference, bit by bit, is the remainder. -/
theorem cut_loop (n a : Nat) (hn : n ≤ 4611686018427387904) (ha : a < 2 ^ 64) (d : Nat) : ∀ i : Nat, i + d = n →
    spec_l1Cut_L0 (n : Int) (a : Int) ((a % 2 ^ (min i 64) : Nat) : Int) (i : Int) = some ((a % 2 ^ (min n 64) : Nat) : Int) := by
  induction d with
  | zero =>
    intro i hi
    obtain rfl : i = n := by omega
    rw [spec_l1Cut_L0_eq, gF (by omega)]
  | succ d ih =>
    intro i hi
    have e1 : IntKind.u64.wrap (i : Int) = (i : Int) := wru (by omega)
    rw [spec_l1Cut_L0_eq, gT (by omega), e1, gF (by omega), up1 i (by omega), bind_id]
    by_cases h64 : i < 64
    · have hlt : a % 2 ^ i < 2 ^ 64 := Nat.lt_of_le_of_lt (Nat.mod_le _ _) ha
      have hp : (2 : Nat) ^ i < 2 ^ 64 := Nat.pow_lt_pow_right (by decide) h64
      rw [shl_one i h64, bAnd_eq a (2 ^ i) ha hp, show min i 64 = i by omega, bOr_eq (a % 2 ^ i) (a &&& 2 ^ i) hlt (Nat.and_lt_two_pow _ hp), cut_step]
      have := ih (i + 1) (by omega)
      rw [show min (i + 1) 64 = i + 1 by omega] at this
      exact this
    · have e3 : bShl .u64 1 (i : Int) = 0 := by
        unfold bShl
        rw [show min ((i : Int)).toNat (IntKind.u64.bits) = 64 by simp only [Int.toNat_natCast, IntKind.bits]; omega, wru_mod]
        decide
      have hlt : a % 2 ^ (min i 64) < 2 ^ 64 := Nat.lt_of_le_of_lt (Nat.mod_le _ _) ha
      rw [e3, show (0 : Int) = ((0 : Nat) : Int) from rfl, bAnd_eq a 0 ha (by decide), bOr_eq _ (a &&& 0) hlt (by simp)]
      rw [show a % 2 ^ (min i 64) ||| a &&& 0 = a % 2 ^ (min (i + 1) 64) by simp; rw [show min i 64 = min (i + 1) 64 by omega]]
      exact ih (i + 1) (by omega)
theorem cut_nat (n a : Nat) (hn : n ≤ 4611686018427387904) (ha : a < 2 ^ 64) : spec_l1Cut (n : Int) (a : Int) = some ((a % 2 ^ (min n 64) : Nat) : Int) := by
  have := cut_loop n a hn ha n 0 (by omega)
  rw [spec_l1Cut_eq, bind_id]
  simpa [Nat.mod_one] using this

/-- The greatest word of a width. -/
def top (wide : Int) : Int := 2 ^ wide.toNat - 1
theorem top_in {wide : Int} (h : 1 ≤ wide ∧ wide ≤ 64) : 1 ≤ top wide ∧ top wide ≤ 18446744073709551615 := by
  obtain ⟨n, rfl⟩ := Int.eq_ofNat_of_zero_le (show 0 ≤ wide by omega)
  have h1 := pow_le64 (n := n) (by omega)
  have h2 : (2 : Nat) ^ 1 ≤ 2 ^ n := Nat.pow_le_pow_right (by decide) (by omega)
  have e : ((2 : Int) ^ n) = ((2 ^ n : Nat) : Int) := by simp
  simp only [top, Int.toNat_natCast, e]
  omega
theorem mask_top (wide : Int) (hw : 1 ≤ wide ∧ wide ≤ 64) : impl_mask wide = some (top wide) := by
  obtain ⟨n, rfl⟩ := Int.eq_ofNat_of_zero_le (show 0 ≤ wide by omega)
  have hp : 0 < (2 : Nat) ^ n := Nat.two_pow_pos _
  have e : ((2 : Int) ^ n) = ((2 ^ n : Nat) : Int) := by simp
  rw [impl_mask_eq, mask_eq n (by omega) (by omega), wr (by omega), gF (by omega)]
  simp only [top, Int.toNat_natCast, e]
  congr 1
  omega
/-- Is a word of a width? -/
def goodWord (wide a : Int) : Bool := decide (1 ≤ wide) && decide (wide ≤ 64) && decide (a ≤ top wide)
theorem goodWord_iff {wide a : Int} : goodWord wide a = true ↔ 1 ≤ wide ∧ wide ≤ 64 ∧ a ≤ top wide := by
  simp only [goodWord, Bool.and_eq_true, decide_eq_true_eq]
  omega
theorem isWide_eq (n : Int) : impl_isWide n = some (decide (1 ≤ n ∧ n ≤ 64)) := by
  rw [impl_isWide_eq]
  by_cases h : n ≥ 1
  · rw [gT h]; congr 1; apply decide_eq_decide.mpr; omega
  · rw [gF h]; congr 1; symm; apply decide_eq_false; omega
theorem l1In_eq (n lo hi : Int) : spec_l1In n lo hi = some (decide (lo ≤ n ∧ n ≤ hi)) := by
  rw [spec_l1In_eq]
  by_cases h : n ≥ lo
  · rw [gT h]; congr 1; apply decide_eq_decide.mpr; omega
  · rw [gF h]; congr 1; symm; apply decide_eq_false; omega
theorem l1Wide_eq (n : Int) : spec_l1Wide n = some (decide (1 ≤ n ∧ n ≤ 64)) := by rw [spec_l1Wide_eq, bind_id, l1In_eq]
theorem spec_goodWord (wide a : Int) (h : U64 a) : spec_GoodWord wide a = some (goodWord wide a) := by
  rw [spec_GoodWord_eq, l1Wide_eq, some_bind]
  by_cases hw : 1 ≤ wide ∧ wide ≤ 64
  · rw [gT hw]
    obtain ⟨h0, h1⟩ := h
    obtain ⟨n, rfl⟩ := Int.eq_ofNat_of_zero_le (show 0 ≤ wide by omega)
    obtain ⟨m, rfl⟩ := Int.eq_ofNat_of_zero_le h0
    have hm : m < 2 ^ 64 := by simpa using (show m < 18446744073709551616 by omega)
    rw [cut_nat n m (by omega) hm, some_bind, show min n 64 = n by omega]
    have e : ((2 : Int) ^ n) = ((2 ^ n : Nat) : Int) := by simp
    have hp : 0 < (2 : Nat) ^ n := Nat.two_pow_pos _
    congr 1
    rw [Bool.eq_iff_iff, beq_iff_eq, goodWord_iff]
    simp only [top, Int.toNat_natCast, e]
    constructor
    · intro h
      have h' : m % 2 ^ n = m := by exact_mod_cast h
      have := Nat.mod_lt m hp
      omega
    · intro h
      rw [Nat.mod_eq_of_lt (by omega)]
  · rw [gF hw]
    congr 1
    symm
    rw [← Bool.not_eq_true, goodWord_iff]
    omega
theorem impl_goodWord (wide a : Int) : impl_GoodWord wide a = some (goodWord wide a) := by
  rw [impl_GoodWord_eq, isWide_eq, some_bind]
  by_cases hw : 1 ≤ wide ∧ wide ≤ 64
  · rw [gT hw, mask_top wide hw, some_bind]
    congr 1
    rw [Bool.eq_iff_iff, goodWord_iff, decide_eq_true_eq]
    omega
  · rw [gF hw]
    congr 1
    symm
    rw [← Bool.not_eq_true, goodWord_iff]
    omega
theorem szNodeS (a : Bool × List DNode) (left : Int) (h0 : 0 ≤ left ∧ left ≤ 1048576) (hl : a.2.length ≤ big) : laws_szNodeS a left = some (if (a.2.length : Int) ≤ left then left - a.2.length else -1) := by
  rw [big_eq] at hl
  rw [laws_szNodeS_eq, wr (by omega)]
  by_cases h : (a.2.length : Int) ≤ left
  · rw [gF (by omega), if_pos h]
  · rw [gT (by omega), if_neg h]
theorem toNodeS (a : Bool × List DNode) (hl : a.2.length ≤ 1048576) : laws_toNodeS a = some (false, a.2) := by
  have hlim : lim = 1099511627776 := rfl
  rw [laws_toNodeS_eq, gT (by omega), gT (by omega), gT (by omega), gT (by omega), bind_id]
  have := loop_map a.2 (fun x => x) (fun o i => laws_toNodeS_L0 a o i) false (fun i h x hx => by
    rw [laws_toNodeS_L0_eq, gT (by omega), gT (by omega), gT (by omega), getD_at a.2 _ i h, laws_toNode_eq, some_bind, gT (by omega), gT (by simp only; omega), up1 i (by omega), bind_id, Int.toNat_natCast]) (fun x hx => by
    rw [laws_toNodeS_L0_eq, gF (by omega)]) (List.replicate (Int.toNat (a.2.length : Int)) (0, 0)) (by simp)
  rw [this]
  simp
theorem eqNodeS_self (a : Bool × List DNode) (hl : a.2.length ≤ 1048576) (b : Bool) : laws_eqNodeS a (b, a.2) = some true := by
  rw [laws_eqNodeS_eq, bF (by simp)]
  have := loop_all a.2 (fun _ => true) (.inr () : Bool ⊕ Unit) (.inl false) (fun i => laws_eqNodeS_L0 a (b, a.2) i) (fun i h => by
    rw [laws_eqNodeS_L0_eq, gT (by omega), gT (by omega), gT (by omega), gT (by omega), gT (by simp only; omega), getD_at a.2 _ i h, laws_eqNode_eq, bF (by simp), bF (by simp), some_bind, bF (by simp), up1 i (by omega), bind_id, cond_true]) (by
    rw [laws_eqNodeS_L0_eq, gF (by omega)])
  rw [this, show (a.2.all fun _ => true) = true by simp]
  rfl
theorem eqNodeS_same (f g : Bool) (l : List DNode) (hl : l.length ≤ 1048576) : laws_eqNodeS (f, l) (g, l) = some true := eqNodeS_self (f, l) hl g
def SmChange (c : DChange) : Prop := c.2.2.length ≤ 1048576
def SmCommand (c : DCommand) : Prop := c.1.2.length ≤ 1048576 ∧ c.2.2.length ≤ 1048576 ∧ ∀ d ∈ c.2.2, SmChange d
def SmProgram (p : DProgram) : Prop := p.2.2.1.2.length ≤ 1048576 ∧ p.2.2.2.2.length ≤ 1048576 ∧ ∀ c ∈ p.2.2.2.2, SmCommand c
theorem szChange (c : DChange) (left : Int) (h0 : 0 ≤ left ∧ left ≤ 1048576) (hl : c.2.2.length ≤ big) : ∃ r, laws_szChange c left = some r ∧ (r < 0 ∨ (0 ≤ r ∧ r ≤ left ∧ SmChange c)) := by
  rw [laws_szChange_eq, szNodeS c.2 left h0 hl, some_bind]
  by_cases h : (c.2.2.length : Int) ≤ left
  · rw [if_pos h, gF (by omega)]
    exact ⟨_, rfl, .inr ⟨by omega, by omega, by unfold SmChange; omega⟩⟩
  · rw [if_neg h, gT (by omega)]
    exact ⟨_, rfl, .inl (by omega)⟩
/-- a loop that counts down what may still come -/
theorem sz_loop {α : Type} (l : List α) (Q : α → Prop) (F : Int → Int → Option (Int ⊕ Int)) (hl : l.length ≤ 1048576)
    (hs : ∀ (i : Nat) (h : i < l.length) (left : Int), 0 ≤ left ∧ left ≤ 1048576 → (F left (i : Int) = some (.inl (-1))) ∨ ∃ r, 0 ≤ r ∧ r ≤ left ∧ Q l[i] ∧ F left (i : Int) = F r ((i + 1 : Nat) : Int))
    (he : ∀ left, F left (l.length : Int) = some (.inr left)) (left : Int) (h0 : 0 ≤ left ∧ left ≤ 1048576) : F left 0 = some (.inl (-1)) ∨ ∃ r, F left 0 = some (.inr r) ∧ 0 ≤ r ∧ r ≤ left ∧ ∀ x ∈ l, Q x := by
  have key : ∀ (d i : Nat) (left : Int), i + d = l.length → 0 ≤ left ∧ left ≤ 1048576 → F left (i : Int) = some (.inl (-1)) ∨ ∃ r, F left (i : Int) = some (.inr r) ∧ 0 ≤ r ∧ r ≤ left ∧ ∀ x ∈ l.drop i, Q x := by
    intro d
    induction d with
    | zero =>
      intro i left hi h0
      obtain rfl : i = l.length := by omega
      exact .inr ⟨left, he left, h0.1, Int.le_refl _, by simp⟩
    | succ d ih =>
      intro i left hi h0
      have hlt : i < l.length := by omega
      rcases hs i hlt left h0 with h | ⟨r, h1, h2, h3, h4⟩
      · exact .inl h
      · rw [h4]
        rcases ih (i + 1) r (by omega) ⟨h1, by omega⟩ with h | ⟨r', h5, h6, h7, h8⟩
        · exact .inl h
        · refine .inr ⟨r', h5, h6, by omega, fun x hx => ?_⟩
          rw [List.drop_eq_getElem_cons hlt] at hx
          rcases List.mem_cons.1 hx with rfl | hx
          · exact h3
          · exact h8 x hx
  have := key l.length 0 left (by omega) h0
  simpa using this
theorem szChangeS (a : Bool × List DChange) (left : Int) (h0 : 0 ≤ left ∧ left ≤ 1048576) (hl : a.2.length ≤ big) (hb : ∀ c ∈ a.2, c.2.2.length ≤ big) : ∃ r, laws_szChangeS a left = some r ∧ (r < 0 ∨ (0 ≤ r ∧ r ≤ left ∧ a.2.length ≤ 1048576 ∧ ∀ c ∈ a.2, SmChange c)) := by
  rw [big_eq] at hl
  rw [laws_szChangeS_eq, wr (by omega)]
  by_cases h : (a.2.length : Int) ≤ left
  · rw [gF (by omega)]
    rcases sz_loop a.2 SmChange (fun left i => laws_szChangeS_L0 a left i) (by omega) (fun i h left h0 => by
      obtain ⟨r, h1, h2⟩ := szChange a.2[i] left h0 (hb _ (List.getElem_mem h))
      rw [laws_szChangeS_L0_eq, gT (by omega), gT (by omega), gT (by omega), getD_at a.2 _ i h, h1, some_bind]
      rcases h2 with h2 | ⟨h2, h3, h4⟩
      · rw [gT h2]; exact .inl rfl
      · rw [gF (by omega), up1 i (by omega), bind_id]; exact .inr ⟨r, h2, h3, h4, rfl⟩) (fun left => by
      rw [laws_szChangeS_L0_eq, gF (by omega)]) (left - a.2.length) (by omega) with h1 | ⟨r, h1, h2, h3, h4⟩
    · rw [h1]; exact ⟨-1, rfl, .inl (by omega)⟩
    · rw [h1]; exact ⟨r, rfl, .inr ⟨h2, by omega, by omega, h4⟩⟩
  · rw [gT (by omega)]
    exact ⟨_, rfl, .inl (by omega)⟩
theorem szCommand (c : DCommand) (left : Int) (h0 : 0 ≤ left ∧ left ≤ 1048576) (h1 : c.1.2.length ≤ big) (hl : c.2.2.length ≤ big) (hb : ∀ d ∈ c.2.2, d.2.2.length ≤ big) : ∃ r, laws_szCommand c left = some r ∧ (r < 0 ∨ (0 ≤ r ∧ r ≤ left ∧ SmCommand c)) := by
  rw [laws_szCommand_eq, szNodeS c.1 left h0 h1, some_bind]
  by_cases h : (c.1.2.length : Int) ≤ left
  · rw [if_pos h, gF (by omega)]
    obtain ⟨r, h2, h3⟩ := szChangeS c.2 (left - c.1.2.length) (by omega) hl hb
    rw [h2, some_bind]
    rcases h3 with h3 | ⟨h3, h4, h5, h6⟩
    · rw [gT h3]; exact ⟨_, rfl, .inl (by omega)⟩
    · rw [gF (by omega)]; exact ⟨_, rfl, .inr ⟨h3, by omega, ⟨by omega, h5, h6⟩⟩⟩
  · rw [if_neg h, gT (by omega)]
    exact ⟨_, rfl, .inl (by omega)⟩
def BigCommand (c : DCommand) : Prop := c.1.2.length ≤ big ∧ c.2.2.length ≤ big ∧ ∀ d ∈ c.2.2, d.2.2.length ≤ big
theorem szCommandS (a : Bool × List DCommand) (left : Int) (h0 : 0 ≤ left ∧ left ≤ 1048576) (hl : a.2.length ≤ big) (hb : ∀ c ∈ a.2, BigCommand c) : ∃ r, laws_szCommandS a left = some r ∧ (r < 0 ∨ (0 ≤ r ∧ r ≤ left ∧ a.2.length ≤ 1048576 ∧ ∀ c ∈ a.2, SmCommand c)) := by
  rw [big_eq] at hl
  rw [laws_szCommandS_eq, wr (by omega)]
  by_cases h : (a.2.length : Int) ≤ left
  · rw [gF (by omega)]
    rcases sz_loop a.2 SmCommand (fun left i => laws_szCommandS_L0 a left i) (by omega) (fun i h left h0 => by
      obtain ⟨b1, b2, b3⟩ := hb _ (List.getElem_mem h)
      obtain ⟨r, h1, h2⟩ := szCommand a.2[i] left h0 b1 b2 b3
      rw [laws_szCommandS_L0_eq, gT (by omega), gT (by omega), gT (by omega), getD_at a.2 _ i h, h1, some_bind]
      rcases h2 with h2 | ⟨h2, h3, h4⟩
      · rw [gT h2]; exact .inl rfl
      · rw [gF (by omega), up1 i (by omega), bind_id]; exact .inr ⟨r, h2, h3, h4, rfl⟩) (fun left => by
      rw [laws_szCommandS_L0_eq, gF (by omega)]) (left - a.2.length) (by omega) with h1 | ⟨r, h1, h2, h3, h4⟩
    · rw [h1]; exact ⟨-1, rfl, .inl (by omega)⟩
    · rw [h1]; exact ⟨r, rfl, .inr ⟨h2, by omega, by omega, h4⟩⟩
  · rw [gT (by omega)]
    exact ⟨_, rfl, .inl (by omega)⟩
theorem WfD_big {p : DProgram} (w : WfD tyProgram p) : p.2.2.1.2.length ≤ big ∧ p.2.2.2.2.length ≤ big ∧ ∀ c ∈ p.2.2.2.2, BigCommand c := by
  obtain ⟨_, _, h1, h2⟩ := w
  refine ⟨h1.2.1, h2.2.1, fun c hc => ?_⟩
  obtain ⟨h3, h4⟩ := h2.2.2 c hc
  exact ⟨h3.2.1, h4.2.1, fun d hd => (h4.2.2 d hd).2.2.1⟩
theorem szProgram (p : DProgram) (w : WfD tyProgram p) (left : Int) (h0 : 0 ≤ left ∧ left ≤ 1048576) : ∃ r, laws_szProgram p left = some r ∧ (r < 0 ∨ (0 ≤ r ∧ r ≤ left ∧ SmProgram p)) := by
  obtain ⟨b1, b2, b3⟩ := WfD_big w
  rw [laws_szProgram_eq, szNodeS p.2.2.1 left h0 b1, some_bind]
  by_cases h : (p.2.2.1.2.length : Int) ≤ left
  · rw [if_pos h, gF (by omega)]
    obtain ⟨r, h2, h3⟩ := szCommandS p.2.2.2 (left - p.2.2.1.2.length) (by omega) b2 b3
    rw [h2, some_bind]
    rcases h3 with h3 | ⟨h3, h4, h5, h6⟩
    · rw [gT h3]; exact ⟨_, rfl, .inl (by omega)⟩
    · rw [gF (by omega)]; exact ⟨_, rfl, .inr ⟨h3, by omega, ⟨by omega, h5, h6⟩⟩⟩
  · rw [if_neg h, gT (by omega)]
    exact ⟨_, rfl, .inl (by omega)⟩
/-! a copy: no slice is nil -/
def cpChange (c : DChange) : DChange := (c.1, (false, c.2.2))
def cpCommand (c : DCommand) : DCommand := ((false, c.1.2), (false, c.2.2.map cpChange))
def cpProgram (p : DProgram) : DProgram := (p.1, (p.2.1, ((false, p.2.2.1.2), (false, p.2.2.2.2.map cpCommand))))
theorem toChangeS (a : Bool × List DChange) (hl : a.2.length ≤ 1048576) (hs : ∀ c ∈ a.2, SmChange c) : laws_toChangeS a = some (false, a.2.map cpChange) := by
  have hlim : lim = 1099511627776 := rfl
  rw [laws_toChangeS_eq, gT (by omega), gT (by omega), gT (by omega), gT (by omega), bind_id]
  exact loop_map a.2 cpChange (fun o i => laws_toChangeS_L0 a o i) false (fun i h x hx => by
    rw [laws_toChangeS_L0_eq, gT (by omega), gT (by omega), gT (by omega), getD_at a.2 _ i h, laws_toChange_eq, toNodeS _ (hs _ (List.getElem_mem h)), some_bind, some_bind, gT (by omega), gT (by simp only; omega), up1 i (by omega), bind_id, Int.toNat_natCast]
    rfl) (fun x hx => by
    rw [laws_toChangeS_L0_eq, gF (by omega)]) (List.replicate (Int.toNat (a.2.length : Int)) (0, (true, []))) (by simp)
theorem toCommandS (a : Bool × List DCommand) (hl : a.2.length ≤ 1048576) (hs : ∀ c ∈ a.2, SmCommand c) : laws_toCommandS a = some (false, a.2.map cpCommand) := by
  have hlim : lim = 1099511627776 := rfl
  rw [laws_toCommandS_eq, gT (by omega), gT (by omega), gT (by omega), gT (by omega), bind_id]
  exact loop_map a.2 cpCommand (fun o i => laws_toCommandS_L0 a o i) false (fun i h x hx => by
    obtain ⟨s1, s2, s3⟩ := hs _ (List.getElem_mem h)
    rw [laws_toCommandS_L0_eq, gT (by omega), gT (by omega), gT (by omega), getD_at a.2 _ i h, laws_toCommand_eq, toNodeS _ s1, some_bind, toChangeS _ s2 s3, some_bind, some_bind, gT (by omega), gT (by simp only; omega), up1 i (by omega), bind_id, Int.toNat_natCast]
    rfl) (fun x hx => by
    rw [laws_toCommandS_L0_eq, gF (by omega)]) (List.replicate (Int.toNat (a.2.length : Int)) ((true, []), (true, []))) (by simp)
theorem toProgram (p : DProgram) (hs : SmProgram p) : laws_toProgram p = some (cpProgram p) := by
  obtain ⟨s1, s2, s3⟩ := hs
  rw [laws_toProgram_eq, toNodeS _ s1, some_bind, toCommandS _ s2 s3, some_bind]
  rfl
/-- two loops over one list that find no difference -/
theorem eq_loop {α : Type} (l : List α) (F : Int → Option (Bool ⊕ Unit)) (hs : ∀ (i : Nat) (h : i < l.length), F (i : Int) = F ((i + 1 : Nat) : Int)) (he : F (l.length : Int) = some (.inr ())) : F 0 = some (.inr ()) := by
  have key : ∀ (d i : Nat), i + d = l.length → F (i : Int) = some (.inr ()) := by
    intro d
    induction d with
    | zero => intro i hi; obtain rfl : i = l.length := by omega
              exact he
    | succ d ih => intro i hi; rw [hs i (by omega)]; exact ih (i + 1) (by omega)
  simpa using key l.length 0 (by omega)
theorem eqChangeS_same (f g : Bool) (l : List DChange) (hl : l.length ≤ 1048576) (hs : ∀ c ∈ l, SmChange c) : laws_eqChangeS (f, l) (g, l) = some true := by
  rw [laws_eqChangeS_eq, bF (by simp)]
  have := eq_loop l (fun i => laws_eqChangeS_L0 (f, l) (g, l) i) (fun i h => by
    rw [laws_eqChangeS_L0_eq, gT (by simp only; omega), gT (by omega), gT (by simp only; omega), gT (by omega), gT (by simp only; omega), getD_at l _ i h, laws_eqChange_eq, bF (by simp), eqNodeS_same l[i].2.1 l[i].2.1 l[i].2.2 (hs _ (List.getElem_mem h)), some_bind, bF (by simp), some_bind, bF (by simp), up1 i (by omega), bind_id]) (by
    rw [laws_eqChangeS_L0_eq, gF (by simp only; omega)])
  rw [this]
  rfl
theorem eqCommandS_same (f g : Bool) (l : List DCommand) (hl : l.length ≤ 1048576) (hs : ∀ c ∈ l, SmCommand c) : laws_eqCommandS (f, l) (g, l) = some true := by
  rw [laws_eqCommandS_eq, bF (by simp)]
  have := eq_loop l (fun i => laws_eqCommandS_L0 (f, l) (g, l) i) (fun i h => by
    obtain ⟨s1, s2, s3⟩ := hs _ (List.getElem_mem h)
    rw [laws_eqCommandS_L0_eq, gT (by simp only; omega), gT (by omega), gT (by simp only; omega), gT (by omega), gT (by simp only; omega), getD_at l _ i h, laws_eqCommand_eq, eqNodeS_same l[i].1.1 l[i].1.1 l[i].1.2 s1, some_bind, bF (by simp), eqChangeS_same l[i].2.1 l[i].2.1 l[i].2.2 s2 s3, some_bind, bF (by simp), some_bind, bF (by simp), up1 i (by omega), bind_id]) (by
    rw [laws_eqCommandS_L0_eq, gF (by simp only; omega)])
  rw [this]
  rfl
theorem eqProgram_same (p : DProgram) (hs : SmProgram p) : laws_eqProgram p p = some true := by
  obtain ⟨s1, s2, s3⟩ := hs
  rw [laws_eqProgram_eq, bF (by simp), bF (by simp), eqNodeS_same p.2.2.1.1 p.2.2.1.1 p.2.2.1.2 s1, some_bind, bF (by simp), eqCommandS_same p.2.2.2.1 p.2.2.2.1 p.2.2.2.2 s2 s3, some_bind, bF (by simp)]
theorem Sm_cp {p : DProgram} (hs : SmProgram p) : SmProgram (cpProgram p) := by
  obtain ⟨s1, s2, s3⟩ := hs
  refine ⟨s1, by simpa [cpProgram] using s2, fun c hc => ?_⟩
  obtain ⟨c0, h1, rfl⟩ := List.mem_map.1 hc
  obtain ⟨q1, q2, q3⟩ := s3 c0 h1
  refine ⟨q1, by simpa [cpCommand] using q2, fun d hd => ?_⟩
  obtain ⟨d0, h2, rfl⟩ := List.mem_map.1 hd
  exact q3 d0 h2
theorem getD_set_self {α : Type} (l : List α) (i : Nat) (x z : α) (h : i < l.length) : (l.set i x).getD i z = x := by
  simp [List.getD_eq_getElem?_getD, h]
/-- the numbers from k on, two for each node, n nodes -/
def countN (k : Int) : Nat → List DNode
  | 0 => []
  | n + 1 => (k, IntKind.u64.wrap (k + 1)) :: countN (k + 2) n
theorem countN_length (n : Nat) : ∀ k : Int, (countN k n).length = n := by
  induction n with
  | zero => intro k; rfl
  | succ n ih => intro k; simp [countN, ih]
theorem markNodeS_L0 (d : Nat) : ∀ (i : Nat) (b : Bool) (x : List DNode) (k : Int), i + d = x.length → x.length ≤ 1048576 → 0 ≤ k → k + 2 * d ≤ 4000000000000000000 → laws_markNodeS_L0 (b, x) k (i : Int) = some ((b, x.take i ++ countN k d), k + 2 * d) := by
  induction d with
  | zero =>
    intro i b x k hi hl hk hk2
    rw [laws_markNodeS_L0_eq, gF (by simp only; omega), List.take_of_length_le (by omega)]
    simp [countN]
  | succ d ih =>
    intro i b x k hi hl hk hk2
    have hlt : i < x.length := by omega
    have hw : IntKind.i64.wrap (k + 1) = k + 1 := wr (by omega)
    have e1 : (x.set i (k, (x.getD i (0, 0)).2)).getD i (0, 0) = (k, (x.getD i (0, 0)).2) := getD_set_self x i _ _ hlt
    rw [laws_markNodeS_L0_eq, gT (by simp only; omega), gT (by omega), gT (by simp only; omega), gT (by omega), gT (by rw [List.length_set]; simp only; omega), up1 i (by omega), hw, wr (by omega), bind_id]
    simp only [Int.toNat_natCast, e1, List.set_set]
    rw [ih (i + 1) b (x.set i (k, IntKind.u64.wrap (k + 1))) (k + 1 + 1) (by rw [List.length_set]; omega) (by rw [List.length_set]; exact hl) (by omega) (by omega)]
    have e : (x.set i (k, IntKind.u64.wrap (k + 1))).take (i + 1) = x.take i ++ [(k, IntKind.u64.wrap (k + 1))] := by
      rw [List.take_succ_eq_append_getElem (by rw [List.length_set]; exact hlt), List.getElem_set_self, List.take_set_of_le (Nat.le_refl _)]
    rw [e, countN, List.append_assoc, List.singleton_append, show k + 1 + 1 + 2 * (d : Int) = k + 2 * ((d + 1 : Nat) : Int) by omega, show k + 1 + 1 = k + 2 by omega]
theorem markNodeS_at (a : Bool × List DNode) (k : Int) (hl : a.2.length ≤ 1048576) (h0 : 0 ≤ k) (hk : k + 2 * a.2.length ≤ 4000000000000000000) : laws_markNodeS a k = some ((a.1, countN k a.2.length), k + 2 * a.2.length) := by
  have h2 := markNodeS_L0 a.2.length 0 a.1 a.2 k (by omega) hl h0 hk
  have h' : laws_markNodeS_L0 (a.1, a.2) k 0 = _ := h2
  rw [laws_markNodeS_eq, h', some_bind, List.take_zero, List.nil_append]
theorem markNodeS (a : Bool × List DNode) (k : Int) (hl : a.2.length ≤ 1048576) (h0 : 0 ≤ k) (hk : k + 2 * 1048576 ≤ 4000000000000000000) : ∃ y k', y.length = a.2.length ∧ laws_markNodeS a k = some ((a.1, y), k') ∧ k ≤ k' ∧ k' ≤ k + 2 * 1048576 :=
  ⟨_, _, countN_length _ _, markNodeS_at a k hl h0 (by omega), by omega, by omega⟩
theorem loop_mark {α : Type} (P : α → Prop) (A : Int) (hA : 0 ≤ A) (F : Bool × List α → Int → Int → Option ((Bool × List α) × Int)) (b : Bool) (n : Nat)
    (hs : ∀ (i : Nat) (x : List α) (k : Int) (h : i < x.length), x.length = n → P x[i] → 0 ≤ k → k + A ≤ 4000000000000000000 → ∃ e k', F (b, x) k (i : Int) = F (b, x.set i e) k' ((i + 1 : Nat) : Int) ∧ k ≤ k' ∧ k' ≤ k + A)
    (he : ∀ (x : List α) (k : Int), x.length = n → F (b, x) k (n : Int) = some ((b, x), k)) (d : Nat) : ∀ (i : Nat) (x : List α) (k : Int), i + d = n → x.length = n → (∀ e ∈ x.drop i, P e) → 0 ≤ k → k + d * A ≤ 4000000000000000000 →
    ∃ y k', y.length = x.length ∧ F (b, x) k (i : Int) = some ((b, y), k') ∧ k ≤ k' ∧ k' ≤ k + d * A := by
  induction d with
  | zero =>
    intro i x k hi hx hp hk hk2
    obtain rfl : i = n := by omega
    exact ⟨x, k, rfl, he x k hx, by omega, by simp⟩
  | succ d ih =>
    intro i x k hi hx hp hk hk2
    have e1 : ((d + 1 : Nat) : Int) * A = d * A + A := by rw [Int.natCast_add, Int.add_mul]; simp
    have e2 : 0 ≤ (d : Int) * A := Int.mul_nonneg (by omega) hA
    rw [e1] at hk2
    have hlt : i < x.length := by omega
    rw [List.drop_eq_getElem_cons hlt] at hp
    obtain ⟨e, k1, q2, q3, q4⟩ := hs i x k hlt hx (hp _ List.mem_cons_self) hk (by omega)
    obtain ⟨y, k2, r1, r2, r3, r4⟩ := ih (i + 1) (x.set i e) k1 (by omega) (by rw [List.length_set]; exact hx) (fun c hc => by
      rw [List.drop_set_of_lt (by omega)] at hc
      exact hp c (List.mem_cons_of_mem _ hc)) (by omega) (by omega)
    rw [List.length_set] at r1
    exact ⟨y, k2, r1, by rw [q2, r2], by omega, by rw [e1]; omega⟩
theorem markChangeS (a : Bool × List DChange) (k : Int) (hl : a.2.length ≤ 1048576) (hs : ∀ c ∈ a.2, SmChange c) (h0 : 0 ≤ k) (hk : k + 1048576 * 2097153 ≤ 4000000000000000000) : ∃ y k', y.length = a.2.length ∧ laws_markChangeS a k = some ((a.1, y), k') ∧ k ≤ k' ∧ k' ≤ k + 1048576 * 2097153 := by
  obtain ⟨y, k', h1, h2, h3, h4⟩ := loop_mark SmChange 2097153 (by omega) laws_markChangeS_L0 a.1 a.2.length (fun i x k h hx hp hk hk2 => by
    have hw : IntKind.i64.wrap (k + 1) = k + 1 := wr (by omega)
    obtain ⟨y, k', q1, q2, q3, q4⟩ := markNodeS x[i].2 (k + 1) hp (by omega) (by omega)
    refine ⟨(k, (x[i].2.1, y)), k', ?_, by omega, by omega⟩
    have e0 : x.getD i (0, (true, [])) = x[i] := by simp [List.getD_eq_getElem?_getD, h]
    have e1 : (x.set i (k, x[i].2)).getD i (0, (true, [])) = (k, x[i].2) := getD_set_self x i _ _ h
    rw [laws_markChangeS_L0_eq, gT (by simp only; omega), gT (by omega), gT (by simp only; omega), gT (by omega), gT (by rw [List.length_set]; simp only; omega), up1 i (by omega), hw]
    have q2' : laws_markNodeS (x[i].2.1, x[i].2.2) (k + 1) = some ((x[i].2.1, y), k') := q2
    simp only [Int.toNat_natCast, e0, e1, q2', some_bind, bind_id, List.set_set]) (fun x k hx => by rw [laws_markChangeS_L0_eq, gF (by simp only; omega)]) a.2.length 0 a.2 k (by omega) rfl (by simpa using hs) h0 (by omega)
  have h' : laws_markChangeS_L0 (a.1, a.2) k 0 = _ := h2
  exact ⟨y, k', h1, by rw [laws_markChangeS_eq, h', some_bind], h3, by omega⟩
theorem markCommandS (a : Bool × List DCommand) (k : Int) (hl : a.2.length ≤ 1048576) (hs : ∀ c ∈ a.2, SmCommand c) (h0 : 0 ≤ k) (hk : k + 1048576 * 2199026401280 ≤ 4000000000000000000) : ∃ y k', y.length = a.2.length ∧ laws_markCommandS a k = some ((a.1, y), k') ∧ k ≤ k' ∧ k' ≤ k + 1048576 * 2199026401280 := by
  obtain ⟨y, k', h1, h2, h3, h4⟩ := loop_mark SmCommand 2199026401280 (by omega) laws_markCommandS_L0 a.1 a.2.length (fun i x k h hx hp hk hk2 => by
    obtain ⟨y, k1, q1, q2, q3, q4⟩ := markNodeS x[i].1 k hp.1 (by omega) (by omega)
    obtain ⟨z, k2, r1, r2, r3, r4⟩ := markChangeS x[i].2 k1 hp.2.1 hp.2.2 (by omega) (by omega)
    refine ⟨((x[i].1.1, y), (x[i].2.1, z)), k2, ?_, by omega, by omega⟩
    have e0 : x.getD i ((true, []), (true, [])) = x[i] := by simp [List.getD_eq_getElem?_getD, h]
    have e1 : (x.set i ((x[i].1.1, y), x[i].2)).getD i ((true, []), (true, [])) = ((x[i].1.1, y), x[i].2) := getD_set_self x i _ _ h
    have q2' : laws_markNodeS (x[i].1.1, x[i].1.2) k = some ((x[i].1.1, y), k1) := q2
    have r2' : laws_markChangeS (x[i].2.1, x[i].2.2) k1 = some ((x[i].2.1, z), k2) := r2
    rw [laws_markCommandS_L0_eq, gT (by simp only; omega), gT (by omega), gT (by simp only; omega), up1 i (by omega)]
    simp only [Int.toNat_natCast, e0, q2', some_bind]
    rw [gT (by omega), gT (by omega)]
    simp only [e1, r2', some_bind, bind_id, List.set_set]) (fun x k hx => by rw [laws_markCommandS_L0_eq, gF (by simp only; omega)]) a.2.length 0 a.2 k (by omega) rfl (by simpa using hs) h0 (by omega)
  have h' : laws_markCommandS_L0 (a.1, a.2) k 0 = _ := h2
  exact ⟨y, k', h1, by rw [laws_markCommandS_eq, h', some_bind], h3, by omega⟩
/-- the laws write over their own copy of a program -/
theorem markProgram (p : DProgram) (hs : SmProgram p) (k : Int) (h0 : 0 ≤ k) (hk : k ≤ 1000000000) : ∃ y z k', laws_markProgram p.1 p.2.1 (p.2.2.1.1, p.2.2.1.2) (p.2.2.2.1, p.2.2.2.2) k = some (y, (z, k')) ∧ k ≤ k' ∧ k' ≤ 3000000000000000000 := by
  obtain ⟨y, k1, q1, q2, q3, q4⟩ := markNodeS p.2.2.1 k hs.1 (by omega) (by omega)
  obtain ⟨z, k2, r1, r2, r3, r4⟩ := markCommandS p.2.2.2 k1 hs.2.1 hs.2.2 (by omega) (by omega)
  have q2' : laws_markNodeS (p.2.2.1.1, p.2.2.1.2) k = _ := q2
  have r2' : laws_markCommandS (p.2.2.2.1, p.2.2.2.2) k1 = _ := r2
  exact ⟨_, _, k2, by rw [laws_markProgram_eq, q2', some_bind, r2', some_bind], by omega, by omega⟩
theorem szSpanS (a : Bool × List DSpan) (left : Int) (h0 : 0 ≤ left ∧ left ≤ 1048576) (hl : a.2.length ≤ big) : laws_szSpanS a left = some (if (a.2.length : Int) ≤ left then left - a.2.length else -1) := by
  rw [big_eq] at hl
  rw [laws_szSpanS_eq, wr (by omega)]
  by_cases h : (a.2.length : Int) ≤ left
  · rw [gF (by omega), if_pos h]
  · rw [gT (by omega), if_neg h]
theorem toSpanS (a : Bool × List DSpan) (hl : a.2.length ≤ 1048576) : laws_toSpanS a = some (false, a.2) := by
  have hlim := lim_eq
  rw [laws_toSpanS_eq, gT (by omega), gT (by omega), gT (by omega), gT (by omega)]
  have := loop_map a.2 (fun x => x) (fun o i => laws_toSpanS_L0 a o i) false (fun i h x hx => by
    rw [laws_toSpanS_L0_eq, gT (by omega), gT (by omega), gT (by omega), getD_at a.2 _ i h, laws_toSpan_eq, some_bind, gT (by omega), gT (by simp only; omega), up1 i (by omega), bind_id, Int.toNat_natCast]) (fun x hx => by
    rw [laws_toSpanS_L0_eq, gF (by omega)]) (List.replicate (Int.toNat (a.2.length : Int)) ((0, 0) : DSpan)) (by simp)
  rw [this, some_bind, List.map_id']
theorem eqSpanS_same (f g : Bool) (l : List DSpan) (hl : l.length ≤ 1048576) : laws_eqSpanS (f, l) (g, l) = some true := by
  rw [laws_eqSpanS_eq, bF (by simp), eq_loop l (fun i => laws_eqSpanS_L0 (f, l) (g, l) i) (fun i h => by
    rw [laws_eqSpanS_L0_eq, gT (by simp only; omega), gT (by omega), gT (by simp only; omega), gT (by omega), gT (by simp only; omega), laws_eqSpan_eq, bF (by simp), bF (by simp), some_bind, Bool.not_true, cond_false, up1 i (by omega), bind_id]) (by rw [laws_eqSpanS_L0_eq, gF (by simp)]), some_bind]
/-- the numbers from k on, two for each span, n spans -/
def countP (k : Int) : Nat → List DSpan
  | 0 => []
  | n + 1 => (IntKind.u64.wrap k, IntKind.u64.wrap (k + 1)) :: countP (k + 2) n
theorem countP_length (n : Nat) : ∀ k : Int, (countP k n).length = n := by
  induction n with
  | zero => intro k; rfl
  | succ n ih => intro k; simp [countP, ih]
theorem markSpanS_L0 (d : Nat) : ∀ (i : Nat) (b : Bool) (x : List DSpan) (k : Int), i + d = x.length → x.length ≤ 1048576 → 0 ≤ k → k + 2 * d ≤ 4000000000000000000 → laws_markSpanS_L0 (b, x) k (i : Int) = some ((b, x.take i ++ countP k d), k + 2 * d) := by
  induction d with
  | zero =>
    intro i b x k hi hl hk hk2
    rw [laws_markSpanS_L0_eq, gF (by simp only; omega), List.take_of_length_le (by omega)]
    simp [countP]
  | succ d ih =>
    intro i b x k hi hl hk hk2
    have hlt : i < x.length := by omega
    have hw : IntKind.i64.wrap (k + 1) = k + 1 := wr (by omega)
    have e1 : (x.set i (IntKind.u64.wrap k, (x.getD i (0, 0)).2)).getD i (0, 0) = (IntKind.u64.wrap k, (x.getD i (0, 0)).2) := getD_set_self x i _ _ hlt
    rw [laws_markSpanS_L0_eq, gT (by simp only; omega), gT (by omega), gT (by simp only; omega), gT (by omega), gT (by rw [List.length_set]; simp only; omega), up1 i (by omega), hw, wr (by omega), bind_id]
    simp only [Int.toNat_natCast, e1, List.set_set]
    rw [ih (i + 1) b (x.set i (IntKind.u64.wrap k, IntKind.u64.wrap (k + 1))) (k + 1 + 1) (by rw [List.length_set]; omega) (by rw [List.length_set]; exact hl) (by omega) (by omega)]
    have e : (x.set i (IntKind.u64.wrap k, IntKind.u64.wrap (k + 1))).take (i + 1) = x.take i ++ [(IntKind.u64.wrap k, IntKind.u64.wrap (k + 1))] := by
      rw [List.take_succ_eq_append_getElem (by rw [List.length_set]; exact hlt), List.getElem_set_self, List.take_set_of_le (Nat.le_refl _)]
    rw [e, countP, List.append_assoc, List.singleton_append, show k + 1 + 1 + 2 * (d : Int) = k + 2 * ((d + 1 : Nat) : Int) by omega, show k + 1 + 1 = k + 2 by omega]
theorem markSpanS (b : Bool) (x : List DSpan) (k : Int) (hl : x.length ≤ 1048576) (h0 : 0 ≤ k) (hk : k + 2 * x.length ≤ 4000000000000000000) : laws_markSpanS (b, x) k = some ((b, countP k x.length), k + 2 * x.length) := by
  have h2 := markSpanS_L0 x.length 0 b x k (by omega) hl h0 hk
  have h' : laws_markSpanS_L0 (b, x) k 0 = _ := h2
  rw [laws_markSpanS_eq, h', some_bind, List.take_zero, List.nil_append]
theorem heldSpanS_L0 (d : Nat) : ∀ (i : Nat) (b : Bool) (x : List DSpan) (k : Int), i + d = x.length → x.length ≤ 1048576 → 0 ≤ k → k + 2 * d ≤ 4000000000000000000 → x.drop i = countP k d → laws_heldSpanS_L0 (b, x) k (i : Int) = some (.inr (k + 2 * d)) := by
  induction d with
  | zero =>
    intro i b x k hi hl hk hk2 hx
    rw [laws_heldSpanS_L0_eq, gF (by simp only; omega)]
    simp
  | succ d ih =>
    intro i b x k hi hl hk hk2 hx
    have hlt : i < x.length := by omega
    have hw : IntKind.i64.wrap (k + 1) = k + 1 := wr (by omega)
    rw [List.drop_eq_getElem_cons hlt, countP] at hx
    obtain ⟨hx1, hx2⟩ := List.cons.inj hx
    rw [laws_heldSpanS_L0_eq, gT (by simp only; omega), gT (by omega), gT (by simp only; omega), getD_at x _ i hlt, hx1, bF (by simp), gT (by omega), gT (by simp only; omega), hw, bF (by simp), up1 i (by omega), wr (by omega), bind_id, show k + 1 + 1 = k + 2 by omega, ih (i + 1) b x (k + 2) (by omega) hl (by omega) (by omega) hx2]
    congr 2
    omega
theorem heldSpanS (b : Bool) (n : Nat) (k : Int) (hl : n ≤ 1048576) (h0 : 0 ≤ k) (hk : k + 2 * n ≤ 4000000000000000000) : laws_heldSpanS (b, countP k n) k = some (k + 2 * n) := by
  have h1 := countP_length n k
  have := heldSpanS_L0 n 0 b (countP k n) k (by omega) (by omega) h0 (by omega) rfl
  have h' : laws_heldSpanS_L0 (b, countP k n) k 0 = _ := this
  rw [laws_heldSpanS_eq, h', some_bind]
/-- What an operation needs: how many operands, their kind, its own kind. -/
def need (op : Int) : Int × Int × Int :=
  if op = 1 ∨ op = 2 then (0, 1, 1) else if op = 20 then (0, 2, 2) else if op = 13 then (1, 1, 1) else if op = 19 then (1, 2, 2)
  else if 3 ≤ op ∧ op ≤ 12 then (2, 1, 1) else if 14 ≤ op ∧ op ≤ 16 then (2, 1, 2) else if op = 17 ∨ op = 18 then (2, 2, 2) else (0, 0, 0)
theorem need_cases (op : Int) : need op = (0, 1, 1) ∨ need op = (0, 2, 2) ∨ need op = (1, 1, 1) ∨ need op = (1, 2, 2) ∨ need op = (2, 1, 1) ∨ need op = (2, 1, 2) ∨ need op = (2, 2, 2) ∨ need op = (0, 0, 0) := by
  unfold need
  repeat' split
  all_goals simp
theorem need_two (op : Int) : ∃ m : Nat, (need op).1 = (m : Int) ∧ m ≤ 2 := by
  rcases need_cases op with h | h | h | h | h | h | h | h <;> rw [h]
  · exact ⟨0, rfl, by omega⟩
  · exact ⟨0, rfl, by omega⟩
  · exact ⟨1, rfl, by omega⟩
  · exact ⟨1, rfl, by omega⟩
  · exact ⟨2, rfl, by omega⟩
  · exact ⟨2, rfl, by omega⟩
  · exact ⟨2, rfl, by omega⟩
  · exact ⟨0, rfl, by omega⟩
theorem l2Need (op : Int) : spec_l2Need op = some (need op) := by
  rw [spec_l2Need_eq, l1In_eq, l1In_eq]
  unfold need
  by_cases h1 : op = 1
  · simp [h1]
  · by_cases h2 : op = 2
    · simp [h2]
    · by_cases h3 : op = 20
      · simp [h3]
      · by_cases h4 : op = 13
        · simp [h4]
        · by_cases h5 : op = 19
          · simp [h5]
          · by_cases h6 : 3 ≤ op ∧ op ≤ 12
            · simp [h1, beqF h1, h2, beqF h2, h3, beqF h3, h4, beqF h4, h5, beqF h5, h6]
            · by_cases h8 : 14 ≤ op ∧ op ≤ 16
              · have h6' : ¬ (3 ≤ op ∧ op ≤ 12) := h6
                simp [h1, beqF h1, h2, beqF h2, h3, beqF h3, h4, beqF h4, h5, beqF h5, h6', h8]
              · by_cases h10 : op = 17
                · simp [h10]
                · by_cases h11 : op = 18
                  · simp [h11]
                  · have h6' : ¬ (3 ≤ op ∧ op ≤ 12) := h6
                    have h8' : ¬ (14 ≤ op ∧ op ≤ 16) := h8
                    simp [h1, beqF h1, h2, beqF h2, h3, beqF h3, h4, beqF h4, h5, beqF h5, h6', h8', h10, beqF h10, h11, beqF h11]
/-- The program names no kind for an operation without operands. -/
def needI (op : Int) : Int × Int × Int := if op = 1 ∨ op = 2 then (0, 0, 1) else if op = 20 then (0, 0, 2) else need op
theorem operandsOf (op : Int) : impl_operandsOf op = some (needI op) := by
  rw [impl_operandsOf_eq]
  unfold needI need
  by_cases h1 : op = 1
  · simp [h1]
  · by_cases h2 : op = 2
    · simp [h2]
    · by_cases h3 : op = 20
      · simp [h3]
      · by_cases h4 : op = 13
        · simp [h4]
        · by_cases h5 : op = 19
          · simp [h5]
          · by_cases h6 : 3 ≤ op
            · by_cases h7 : op ≤ 12
              · simp [h1, beqF h1, h2, beqF h2, h3, beqF h3, h4, beqF h4, h5, beqF h5, h6, h7]
              · by_cases h8 : 14 ≤ op
                · by_cases h9 : op ≤ 16
                  · simp [h1, beqF h1, h2, beqF h2, h3, beqF h3, h4, beqF h4, h5, beqF h5, h6, h7, h8, h9]
                  · by_cases h10 : op = 17
                    · simp [h10]
                    · by_cases h11 : op = 18
                      · simp [h11]
                      · simp [h1, beqF h1, h2, beqF h2, h3, beqF h3, h4, beqF h4, h5, beqF h5, h6, h7, h8, h9, h10, beqF h10, h11, beqF h11]
                · have h10 : ¬ op = 17 := by omega
                  have h11 : ¬ op = 18 := by omega
                  simp [h1, beqF h1, h2, beqF h2, h3, beqF h3, h4, beqF h4, h5, beqF h5, h6, h7, h8, h10, beqF h10, h11, beqF h11]
            · have h8 : ¬ 14 ≤ op := by omega
              have h10 : ¬ op = 17 := by omega
              have h11 : ¬ op = 18 := by omega
              simp [h1, beqF h1, h2, beqF h2, h3, beqF h3, h4, beqF h4, h5, beqF h5, h6, h8, h10, beqF h10, h11, beqF h11]
theorem needI_parts (op : Int) : (needI op).1 = (need op).1 ∧ (needI op).2.2 = (need op).2.2 ∧ ((need op).1 = 0 ∨ (needI op).2.1 = (need op).2.1) := by
  unfold needI
  by_cases h1 : op = 1 ∨ op = 2
  · simp [need, h1]
  · by_cases h2 : op = 20
    · simp [need, h2]
    · simp [h1, h2]
/-- Is an operation's number right? -/
def leafOk (wide vars op n : Int) : Bool := if op = 1 then goodWord wide n else if op = 2 then decide (n < vars) else if op = 20 then decide (n < 2) else n == 0
theorem l2N (wide vars : Int) (x : DNode) (hv : 0 ≤ vars ∧ vars ≤ 4) (h : U64 x.2) : spec_l2N wide vars x = some (leafOk wide vars x.1 x.2) := by
  rw [spec_l2N_eq, spec_goodWord wide x.2 h, wru (by omega)]
  unfold leafOk
  by_cases a1 : x.1 = 1
  · simp [a1]
  · by_cases a2 : x.1 = 2
    · simp [a2]
    · by_cases a3 : x.1 = 20
      · simp [a3]
      · simp [a1, a2, a3, beqF a1, beqF a2, beqF a3]
theorem isLeafRight (wide vars : Int) (x : DNode) (hv : 0 ≤ vars ∧ vars ≤ 4) : impl_isLeafRight wide vars x = some (leafOk wide vars x.1 x.2) := by
  rw [impl_isLeafRight_eq, impl_goodWord wide x.2, wru (by omega)]
  unfold leafOk
  by_cases a1 : x.1 = 1
  · simp [a1]
  · by_cases a2 : x.1 = 2
    · simp [a2]
    · by_cases a3 : x.1 = 20
      · simp [a3]
        omega
      · simp [a1, a2, a3, beqF a1, beqF a2, beqF a3]
/-- One operation on the stack of kinds. -/
def kstep (wide vars : Int) (st : List Int) (x : DNode) : Option (List Int) :=
  if (need x.1).2.2 = 0 then none else if leafOk wide vars x.1 x.2 = true then
    (if (st.length : Int) < (need x.1).1 then none else if (st.drop (st.length - (need x.1).1.toNat)).all (fun y => y == (need x.1).2.1) = true then some (st.take (st.length - (need x.1).1.toNat) ++ [(need x.1).2.2]) else none)
  else none
def kfold (wide vars : Int) : List DNode → List Int → Option (List Int)
  | [], st => some st
  | x :: xs, st => (kstep wide vars st x).bind (kfold wide vars xs)
/-- A term's kind: 0 for none. -/
def kindT (wide vars : Int) (t : List DNode) : Int :=
  if 1 ≤ wide ∧ wide ≤ 64 ∧ 1 ≤ vars ∧ vars ≤ 4 ∧ 1 ≤ t.length ∧ t.length ≤ 48 then (match kfold wide vars t [] with
    | some [a] => a
    | _ => 0) else 0
theorem l2Kind_L2 (wide vars part own n i : Int) (t : Bool × List DNode) (m : Nat) : ∀ (b : Bool) (st : List Int), m ≤ st.length → st.length < 1000 →
    spec_l2Kind_L2 wide vars (b, st) (m : Int) part own t n i = if (st.drop (st.length - m)).all (fun y => y == part) = true then some (.inr (b, st.take (st.length - m))) else some (.inl 0) := by
  induction m with
  | zero =>
    intro b st hm hs
    rw [spec_l2Kind_L2_eq, gF (by omega)]
    simp
  | succ m ih =>
    intro b st hm hs
    rcases List.eq_nil_or_concat st with rfl | ⟨st', a, rfl⟩
    · simp at hm
    · rw [List.concat_eq_append] at *
      simp only [List.length_append, List.length_singleton] at hm hs ⊢
      have e1 : IntKind.i64.wrap (((st'.length + 1 : Nat) : Int) - 1) = (st'.length : Int) := by rw [wr (by omega)]; omega
      have e2 : IntKind.i64.wrap (((m + 1 : Nat) : Int) - 1) = (m : Int) := by rw [wr (by omega)]; omega
      have e3 : (st' ++ [a]).getD (Int.toNat (st'.length : Int)) 0 = a := by
        rw [getD_at _ _ _ (by simp)]
        simp
      have e4 : (st' ++ [a]).take st'.length = st' := List.take_left' rfl
      rw [spec_l2Kind_L2_eq]
      simp only [List.length_append, List.length_singleton]
      rw [e1, e2, e3, gT (by omega), gT (by omega), gT (by omega), gT (by omega), gT (by omega), Int.toNat_natCast, e4, List.drop_zero, bind_id,
        show st'.length + 1 - (m + 1) = st'.length - m by omega, List.drop_append_of_le_length (by omega), List.all_append, List.take_append_of_le_length (by omega)]
      by_cases ha : a = part
      · rw [bF (by simp [ha]), ih b st' (by omega) (by omega)]
        simp [ha]
      · rw [bT (by simp [ha])]
        simp [ha]
theorem l2Kind_L0 (wide vars : Int) (t : Bool × List DNode) (ht : t.2.length ≤ 48) (hv : 0 ≤ vars ∧ vars ≤ 4) (hw : ∀ x ∈ t.2, U64 x.2) (d : Nat) : ∀ (i : Nat) (b : Bool) (st : List Int), i + d = t.2.length → st.length ≤ i →
    (kfold wide vars (t.2.drop i) st = none ∧ spec_l2Kind_L0 wide vars (b, st) t (t.2.length : Int) (i : Int) = some (.inl 0)) ∨ ∃ b' s, kfold wide vars (t.2.drop i) st = some s ∧ spec_l2Kind_L0 wide vars (b, st) t (t.2.length : Int) (i : Int) = some (.inr (b', s)) := by
  induction d with
  | zero =>
    intro i b st hi hs
    rw [spec_l2Kind_L0_eq, gF (by omega), List.drop_of_length_le (by omega)]
    exact .inr ⟨b, st, rfl, rfl⟩
  | succ d ih =>
    intro i b st hi hs
    have hlt : i < t.2.length := by omega
    have hx := hw _ (List.getElem_mem hlt)
    have hlim : lim = 1099511627776 := rfl
    rw [spec_l2Kind_L0_eq, gT (by omega), gT (by omega), gT (by omega), getD_at t.2 _ i hlt, l2Need, some_bind, List.drop_eq_getElem_cons hlt]
    simp only [kfold, kstep]
    rw [l2N wide vars _ hv hx]
    by_cases h0 : (need t.2[i].1).2.2 = 0
    · rw [bT (by simp [h0]), if_pos h0]; exact .inl ⟨rfl, rfl⟩
    · rw [bF (by simp [h0]), if_neg h0, some_bind]
      cases hl : leafOk wide vars t.2[i].1 t.2[i].2 with
      | false => exact .inl ⟨rfl, rfl⟩
      | true =>
        rw [bF (by simp), if_pos rfl]
        by_cases hn : (st.length : Int) < (need t.2[i].1).1
        · rw [gT hn, if_pos hn]; exact .inl ⟨rfl, rfl⟩
        · rw [gF hn, if_neg hn]
          obtain ⟨m, hm, hm2⟩ := need_two t.2[i].1
          rw [hm] at hn ⊢
          rw [Int.toNat_natCast, l2Kind_L2 wide vars _ _ _ _ t m b st (by omega) (by omega)]
          by_cases ha : (st.drop (st.length - m)).all (fun y => y == (need t.2[i].1).2.1) = true
          · rw [if_pos ha, if_pos ha]
            simp only [some_bind]
            rw [gT (by simp; omega), up1 i (by omega), bind_id]
            exact ih (i + 1) _ _ (by omega) (by simp; omega)
          · rw [if_neg ha, if_neg ha, some_bind]
            exact .inl ⟨rfl, rfl⟩
theorem l2Kind (wide vars : Int) (t : Bool × List DNode) (hw : ∀ x ∈ t.2, U64 x.2) : spec_l2Kind wide vars t = some (kindT wide vars t.2) := by
  rw [spec_l2Kind_eq, l1Wide_eq, l1In_eq, l1In_eq, some_bind, some_bind, some_bind]
  unfold kindT
  by_cases h1 : 1 ≤ wide ∧ wide ≤ 64
  · by_cases h3 : 1 ≤ vars ∧ vars ≤ 4
    · by_cases h5 : 1 ≤ (t.2.length : Int) ∧ (t.2.length : Int) ≤ 48
      · rw [bF (by simp [h1]), bF (by simp [h3]), bF (by simp; omega), if_pos (by omega)]
        rcases l2Kind_L0 wide vars t (by omega) (by omega) hw t.2.length 0 true [] (by omega) (by simp) with ⟨k1, k2⟩ | ⟨b, s, k1, k2⟩
        · rw [show ((0 : Nat) : Int) = 0 from rfl] at k2
          rw [k2, some_bind]
          rw [List.drop_zero] at k1
          rw [k1]
        · rw [show ((0 : Nat) : Int) = 0 from rfl] at k2
          rw [k2, some_bind]
          rw [List.drop_zero] at k1
          rw [k1]
          match s with
          | [] => simp
          | [a] => simp
          | a :: b :: st =>
            have : (((a :: b :: st).length : Int) != 1) = true := by simp; omega
            simp only
            rw [bT this]
      · rw [bF (by simp [h1]), bF (by simp [h3]), bT (by simp; omega), if_neg (by omega)]
    · rw [bF (by simp [h1]), bT (by simp; omega), if_neg (by omega)]
  · rw [bT (by simp; omega), if_neg (by omega)]
theorem kindT_in {wide vars : Int} {t : List DNode} (h : kindT wide vars t ≠ 0) : 1 ≤ wide ∧ wide ≤ 64 ∧ 1 ≤ vars ∧ vars ≤ 4 ∧ 1 ≤ t.length ∧ t.length ≤ 48 := by
  unfold kindT at h
  split at h
  · assumption
  · exact absurd rfl h
theorem kfold_last (wide vars : Int) : ∀ (xs : List DNode) (st r : List Int), kfold wide vars xs st = some r → ∀ h : xs ≠ [], (∃ r', r = r' ++ [(need (xs.getLast h).1).2.2]) ∧ (need (xs.getLast h).1).2.2 ≠ 0 := by
  intro xs
  induction xs with
  | nil => intro st r _ h; exact absurd rfl h
  | cons x xs ih =>
    intro st r hr h
    simp only [kfold, Option.bind_eq_some_iff] at hr
    obtain ⟨s, h1, h2⟩ := hr
    cases xs with
    | nil =>
      simp only [kfold, Option.some.injEq] at h2
      subst h2
      simp only [List.getLast_singleton]
      unfold kstep at h1
      split at h1
      · simp at h1
      · rename_i hne
        split at h1
        · split at h1
          · simp at h1
          · split at h1
            · simp only [Option.some.injEq] at h1
              exact ⟨⟨_, h1.symm⟩, hne⟩
            · simp at h1
        · simp at h1
    | cons y ys =>
      have := ih s r h2 (by simp)
      rwa [List.getLast_cons (by simp)]
/-- a good term's kind is its last operation's -/
theorem kindT_last {wide vars : Int} {t : List DNode} (h : kindT wide vars t ≠ 0) (hne : t ≠ []) : kfold wide vars t [] = some [kindT wide vars t] ∧ kindT wide vars t = (need (t.getLast hne).1).2.2 := by
  unfold kindT at h ⊢
  split at h
  · rename_i hc
    rw [if_pos hc]
    split at h
    · rename_i a ha
      obtain ⟨⟨r', e⟩, h0⟩ := kfold_last wide vars t [] [a] ha hne
      have hr : r' = [] := by
        have := congrArg List.length e
        simp at this
        exact this
      subst hr
      rw [ha]
      exact ⟨rfl, by simpa using e⟩
    · exact absurd rfl h
  · exact absurd rfl h
theorem contains_kind (b : Bool) (l : List Int) (a : Int) (hl : l.length ≤ 1000) : slices_ContainsFunc_int_by_GoodTerm_1 (b, l) (a, ()) = some (l.any fun y => a != y) := by
  rw [slices_ContainsFunc_int_by_GoodTerm_1_eq, slices_IndexFunc_int_by_GoodTerm_1_eq]
  exact contains_of (loop_find l (fun y => a != y) (fun i => slices_IndexFunc_int_by_GoodTerm_1_L0 (b, l) (a, ()) (l.length : Int) i) (fun i h => by
    rw [slices_IndexFunc_int_by_GoodTerm_1_L0_eq, gT (by omega), gT (by omega), gT (by simp only; omega), getD_at l _ i h, impl_GoodTerm_1_eq, some_bind, up1 i (by omega), bind_id]
    simp only [bne_comm]) (by rw [slices_IndexFunc_int_by_GoodTerm_1_L0_eq, gF (by omega)]))
theorem goodTerm_L0 (wide vars : Int) (t : Bool × List DNode) (ht : t.2.length ≤ 48) (hv : 0 ≤ vars ∧ vars ≤ 4) (d : Nat) : ∀ (i : Nat) (b : Bool) (st : List Int), i + d = t.2.length → st.length ≤ i →
    (kfold wide vars (t.2.drop i) st = none ∧ impl_GoodTerm_L0 wide vars (b, st) t (t.2.length : Int) (i : Int) = some (.inl false)) ∨ ∃ b' s, kfold wide vars (t.2.drop i) st = some s ∧ impl_GoodTerm_L0 wide vars (b, st) t (t.2.length : Int) (i : Int) = some (.inr (b', s)) := by
  induction d with
  | zero =>
    intro i b st hi hs
    rw [impl_GoodTerm_L0_eq, gF (by omega), List.drop_of_length_le (by omega)]
    exact .inr ⟨b, st, rfl, rfl⟩
  | succ d ih =>
    intro i b st hi hs
    have hlt : i < t.2.length := by omega
    obtain ⟨p1, p2, p3⟩ := needI_parts t.2[i].1
    have hlim : lim = 1099511627776 := rfl
    rw [impl_GoodTerm_L0_eq, gT (by omega), gT (by omega), gT (by omega), getD_at t.2 _ i hlt, operandsOf, some_bind, List.drop_eq_getElem_cons hlt, isLeafRight wide vars _ hv, p1, p2]
    simp only [kfold]
    obtain ⟨m, hm, hm2⟩ := need_two t.2[i].1
    rw [hm]
    by_cases h0 : (need t.2[i].1).2.2 = 0
    · rw [bT (by simp [h0])]; exact .inl ⟨by simp [kstep, h0], rfl⟩
    · rw [bF (by simp [h0]), some_bind]
      cases hl : leafOk wide vars t.2[i].1 t.2[i].2 with
      | false => exact .inl ⟨by simp [kstep, hl, h0], rfl⟩
      | true =>
        rw [bF (by simp)]
        by_cases hn : (st.length : Int) < (m : Int)
        · rw [wr (by omega), gT (by omega)]
          exact .inl ⟨by simp [kstep, hl, h0, hm, hn], rfl⟩
        · have e : IntKind.i64.wrap ((st.length : Int) - (m : Int)) = ((st.length - m : Nat) : Int) := by rw [wr (by omega)]; omega
          have ek : kstep wide vars st t.2[i] = if (st.drop (st.length - m)).all (fun y => y == (need t.2[i].1).2.1) = true then some (st.take (st.length - m) ++ [(need t.2[i].1).2.2]) else none := by
            unfold kstep
            rw [if_neg h0, if_pos hl, hm, if_neg hn, Int.toNat_natCast]
          have ea : (st.drop (st.length - m)).any (fun y => (needI t.2[i].1).2.1 != y) = !(st.drop (st.length - m)).all (fun y => y == (need t.2[i].1).2.1) := by
            rcases p3 with p3 | p3
            · have : m = 0 := by omega
              subst this
              simp
            · rw [p3, List.not_all_eq_any_not]
              congr 1
              funext y
              rw [bne, Bool.beq_comm]
          rw [e, gF (by omega), gT (by omega), gT (by omega), Int.toNat_natCast, List.take_length, contains_kind b (st.drop (st.length - m)) _ (by simp; omega), some_bind, ea, ek]
          cases ha : (st.drop (st.length - m)).all (fun y => y == (need t.2[i].1).2.1) with
          | false => exact .inl ⟨rfl, rfl⟩
          | true =>
            rw [bF (by simp), gT (by omega), gT (by omega), gT (by simp; omega), up1 i (by omega), bind_id, if_pos rfl, List.drop_zero]
            simp only [some_bind]
            exact ih (i + 1) _ _ (by omega) (by simp; omega)
theorem isVars_eq (n : Int) : impl_isVars n = some (decide (1 ≤ n ∧ n ≤ 4)) := by
  rw [impl_isVars_eq]
  by_cases h : n ≥ 1
  · rw [gT h]; congr 1; apply decide_eq_decide.mpr; omega
  · rw [gF h]; congr 1; symm; apply decide_eq_false; omega
theorem goodTerm (wide vars : Int) (t : Bool × List DNode) : impl_GoodTerm wide vars t = some (kindT wide vars t.2 != 0) := by
  rw [impl_GoodTerm_eq, isWide_eq, isVars_eq, some_bind, some_bind]
  by_cases h1 : 1 ≤ wide ∧ wide ≤ 64
  · by_cases h3 : 1 ≤ vars ∧ vars ≤ 4
    · by_cases h5 : (t.2.length : Int) < 1
      · rw [bF (by simp [h1]), bF (by simp [h3]), gT h5]
        unfold kindT; rw [if_neg (by omega)]; rfl
      · by_cases h6 : (t.2.length : Int) > 48
        · rw [bF (by simp [h1]), bF (by simp [h3]), gF h5, gT h6]
          unfold kindT; rw [if_neg (by omega)]; rfl
        · rw [bF (by simp [h1]), bF (by simp [h3]), gF h5, gF h6]
          have hc : 1 ≤ wide ∧ wide ≤ 64 ∧ 1 ≤ vars ∧ vars ≤ 4 ∧ 1 ≤ t.2.length ∧ t.2.length ≤ 48 := by omega
          have hne : t.2 ≠ [] := by intro h; rw [h] at h5; simp at h5
          rcases goodTerm_L0 wide vars t (by omega) (by omega) t.2.length 0 false [] (by omega) (by simp) with ⟨k1, k2⟩ | ⟨b, s, k1, k2⟩
          · rw [show ((0 : Nat) : Int) = 0 from rfl] at k2
            rw [k2, some_bind]
            rw [List.drop_zero] at k1
            unfold kindT
            rw [if_pos hc, k1]
            rfl
          · rw [show ((0 : Nat) : Int) = 0 from rfl] at k2
            rw [k2, some_bind]
            rw [List.drop_zero] at k1
            obtain ⟨⟨r', e⟩, hne0⟩ := kfold_last wide vars t.2 [] s k1 hne
            unfold kindT
            rw [if_pos hc, k1]
            match s, e with
            | [], e => rfl
            | [a], e =>
              have hr : r' = [] := by
                have := congrArg List.length e
                simp at this
                exact this
              subst hr
              simp at e
              rw [← e] at hne0
              simp [hne0]
            | a :: b :: c, e =>
              simp
              omega
    · rw [bF (by simp [h1]), bT (by simp; omega)]
      unfold kindT; rw [if_neg (by omega)]; rfl
  · rw [bT (by simp; omega)]
    unfold kindT; rw [if_neg (by omega)]; rfl
theorem isTermOf (wide vars kd : Int) (t : Bool × List DNode) (h0 : kd ≠ 0) : impl_isTermOf wide vars t kd = some (kindT wide vars t.2 == kd) := by
  rw [impl_isTermOf_eq, goodTerm, some_bind]
  by_cases hz : kindT wide vars t.2 = 0
  · rw [bF (by simp [hz]), hz]
    congr 1
    symm
    simp
    omega
  · have hne : t.2 ≠ [] := by
      intro h
      rw [h] at hz
      exact hz (by simp [kindT])
    have hin := kindT_in hz
    rw [bT (by simp [hz]), impl_kindOf_eq, dn1 _ (by omega) (by omega), gT (by omega), gT (by omega), getD_at _ _ _ (by omega), operandsOf, some_bind, some_bind]
    rw [(needI_parts _).2.1, (kindT_last hz hne).2, List.getLast_eq_getElem]
/-- terms of words -/
def WfN (t : List DNode) : Prop := ∀ x ∈ t, U64 x.2
def WfCh (c : DChange) : Prop := WfN c.2.2
def WfCm (c : DCommand) : Prop := WfN c.1.2 ∧ ∀ d ∈ c.2.2, WfCh d
def WfP (p : DProgram) : Prop := WfN p.2.2.1.2 ∧ ∀ c ∈ p.2.2.2.2, WfCm c
theorem WfD_nodes {a : Bool × List DNode} (w : WfD (.sl tyNode) a) : WfN a.2 := fun x hx => WfD_u64 (w.2.2 x hx).2
theorem WfD_prog {p : DProgram} (w : WfD tyProgram p) : WfP p := by
  obtain ⟨_, _, h1, h2⟩ := w
  refine ⟨WfD_nodes h1, fun c hc => ?_⟩
  obtain ⟨h3, h4⟩ := h2.2.2 c hc
  exact ⟨WfD_nodes h3, fun d hd => WfD_nodes (h4.2.2 d hd).2⟩
theorem WfP_cp {p : DProgram} (w : WfP p) : WfP (cpProgram p) := by
  refine ⟨w.1, fun c hc => ?_⟩
  obtain ⟨c0, h1, rfl⟩ := List.mem_map.1 hc
  obtain ⟨q1, q2⟩ := w.2 c0 h1
  refine ⟨q1, fun d hd => ?_⟩
  obtain ⟨d0, h2, rfl⟩ := List.mem_map.1 hd
  exact q2 d0 h2
/-- Are changes right, the variable before them being p? -/
def chgOk (wide vars : Int) : Int → List DChange → Bool
  | _, [] => true
  | p, c :: cs => decide (p < c.1) && decide (c.1 < vars) && (kindT wide vars c.2.2 == 1) && chgOk wide vars c.1 cs
theorem chgOk_len (wide vars : Int) : ∀ (l : List DChange) (p : Int), p < vars → chgOk wide vars p l = true → p + (l.length : Int) < vars := by
  intro l
  induction l with
  | nil => intro p h _; simpa using h
  | cons c cs ih =>
    intro p h hc
    simp only [chgOk, Bool.and_eq_true, decide_eq_true_eq] at hc
    have := ih c.1 hc.1.1.2 hc.2
    simp only [List.length_cons]
    omega
def cmdOk (wide vars : Int) (c : DCommand) : Bool := (kindT wide vars c.1.2 == 2) && chgOk wide vars (-1) c.2.2
/-- The variable of the change before. -/
def before (l : List DChange) (i : Nat) : Int := if i = 0 then -1 else (l.getD (i - 1) (0, (true, []))).1
theorem before_succ (l : List DChange) (i : Nat) (h : i < l.length) : before l (i + 1) = l[i].1 := by
  simp [before, h]
theorem l7Command_L0 (p : DProgram) (c : DCommand) (hl : c.2.2.length ≤ 1048576) (hv : 1 ≤ p.2.1 ∧ p.2.1 ≤ 4) (hw : ∀ d ∈ c.2.2, WfCh d) (d : Nat) : ∀ (i : Nat), i + d = c.2.2.length → -1 ≤ before c.2.2 i →
    spec_l7Command_L0 p c c.2 (c.2.2.length : Int) (i : Int) = some (bif chgOk p.1 p.2.1 (before c.2.2 i) (c.2.2.drop i) then .inr () else .inl false) := by
  induction d with
  | zero =>
    intro i hi hb0
    rw [spec_l7Command_L0_eq, gF (by omega), List.drop_of_length_le (by omega)]
    rfl
  | succ d ih =>
    intro i hi hb0
    have hlt : i < c.2.2.length := by omega
    have hx := hw _ (List.getElem_mem hlt)
    have go := ih (i + 1) (by omega)
    rw [before_succ _ i hlt] at go
    rw [List.drop_eq_getElem_cons hlt, spec_l7Command_L0_eq, gT (by omega), gT (by omega), gT (by omega), getD_at _ _ i hlt, l1In_eq, some_bind, wr (by omega), up1 i (by omega), bind_id, l2Kind p.1 p.2.1 _ hx, some_bind]
    simp only [chgOk]
    by_cases h1 : 0 ≤ c.2.2[i].1 ∧ c.2.2[i].1 ≤ p.2.1 - 1
    · rw [bF (by simp [h1]), go (by omega)]
      have h3 : decide (c.2.2[i].1 < p.2.1) = true := by simp; omega
      rw [h3]
      by_cases hi0 : i = 0
      · subst hi0
        have hb : decide (before c.2.2 0 < c.2.2[0].1) = true := by simp [before]; omega
        rw [gF (by omega), hb]
        by_cases hk1 : kindT p.1 p.2.1 c.2.2[0].2.2 = 1
        · rw [bF (by simp [hk1])]; simp [hk1]
        · rw [bT (by simp [hk1])]; simp [beqF hk1]
      · have hb : before c.2.2 i = c.2.2[i - 1].1 := by
          simp only [before, if_neg hi0]
          rw [List.getD_eq_getElem?_getD]
          simp [show i - 1 < c.2.2.length by omega]
        rw [gT (by omega), dn1 i (by omega) (by omega), gT (by omega), gT (by omega), getD_at _ _ (i - 1) (by omega), hb]
        by_cases h4 : c.2.2[i - 1].1 ≥ c.2.2[i].1
        · have : decide (c.2.2[i - 1].1 < c.2.2[i].1) = false := by simp; omega
          rw [gT h4, this]; rfl
        · have : decide (c.2.2[i - 1].1 < c.2.2[i].1) = true := by simp; omega
          rw [gF h4, this]
          by_cases hk1 : kindT p.1 p.2.1 c.2.2[i].2.2 = 1
          · rw [bF (by simp [hk1])]; simp [hk1]
          · rw [bT (by simp [hk1])]; simp [beqF hk1]
    · rw [bT (by simp; omega)]
      have : (decide (before c.2.2 i < c.2.2[i].1) && decide (c.2.2[i].1 < p.2.1)) = false := by
        rw [← Bool.not_eq_true]
        simp
        omega
      rw [this]; rfl
theorem l7Asks (p : DProgram) (t : Bool × List DNode) (h : WfN t.2) : spec_l7Asks p t = some (kindT p.1 p.2.1 t.2 == 2) := by
  rw [spec_l7Asks_eq, l2Kind p.1 p.2.1 t h, some_bind]
theorem isCondition (p : DProgram) (t : Bool × List DNode) : impl_Program_isCondition p t = some (kindT p.1 p.2.1 t.2 == 2) := by
  rw [impl_Program_isCondition_eq, isTermOf _ _ _ _ (by omega), bind_id]
theorem l7Command (p : DProgram) (c : DCommand) (hl : c.2.2.length ≤ 1048576) (h : WfCm c) : spec_l7Command p c = some (cmdOk p.1 p.2.1 c) := by
  rw [spec_l7Command_eq, l7Asks p _ h.1, some_bind]
  unfold cmdOk
  by_cases h2 : kindT p.1 p.2.1 c.1.2 = 2
  · have hv := kindT_in (by rw [h2]; omega : kindT p.1 p.2.1 c.1.2 ≠ 0)
    rw [bF (by simp [h2]), h2]
    by_cases hn : (c.2.2.length : Int) > p.2.1
    · have : chgOk p.1 p.2.1 (-1) c.2.2 = false := by
        cases hc : chgOk p.1 p.2.1 (-1) c.2.2 with
        | false => rfl
        | true =>
          have := chgOk_len p.1 p.2.1 c.2.2 (-1) (by omega) hc
          omega
      rw [gT hn, this]; rfl
    · have := l7Command_L0 p c hl (by omega) h.2 c.2.2.length 0 (by omega) (by simp [before])
      rw [show ((0 : Nat) : Int) = 0 from rfl, List.drop_zero] at this
      rw [gF hn, this, some_bind]
      simp only [before, if_true]
      cases chgOk p.1 p.2.1 (-1) c.2.2 <;> rfl
  · rw [bT (by simp [h2]), beqF h2]; rfl
theorem isCommand_L0 (p : DProgram) (c : DCommand) (hl : c.2.2.length ≤ 1048576) (d : Nat) : ∀ (i : Nat), i + d = c.2.2.length → -1 ≤ before c.2.2 i →
    impl_Program_isCommand_L0 p c c.2 (c.2.2.length : Int) (i : Int) = some (bif chgOk p.1 p.2.1 (before c.2.2 i) (c.2.2.drop i) then .inr () else .inl false) := by
  induction d with
  | zero =>
    intro i hi hb0
    rw [impl_Program_isCommand_L0_eq, gF (by omega), List.drop_of_length_le (by omega)]
    rfl
  | succ d ih =>
    intro i hi hb0
    have hlt : i < c.2.2.length := by omega
    have go := ih (i + 1) (by omega)
    rw [before_succ _ i hlt] at go
    rw [List.drop_eq_getElem_cons hlt, impl_Program_isCommand_L0_eq, gT (by omega), gT (by omega), gT (by omega), getD_at _ _ i hlt, up1 i (by omega), bind_id, isTermOf _ _ _ _ (by omega), some_bind]
    simp only [chgOk]
    by_cases h1 : c.2.2[i].1 < 0
    · have : decide (before c.2.2 i < c.2.2[i].1) = false := by simp; omega
      rw [gT h1, this]; rfl
    · rw [gF h1, go (by omega)]
      by_cases h2 : c.2.2[i].1 ≥ p.2.1
      · have : decide (c.2.2[i].1 < p.2.1) = false := by simp; omega
        rw [gT h2, this, Bool.and_false]; rfl
      · have h3 : decide (c.2.2[i].1 < p.2.1) = true := by simp; omega
        rw [gF h2, h3]
        by_cases hi0 : i = 0
        · subst hi0
          have hb : decide (before c.2.2 0 < c.2.2[0].1) = true := by simp [before]; omega
          rw [gF (by omega), hb]
          by_cases hk1 : kindT p.1 p.2.1 c.2.2[0].2.2 = 1
          · rw [bF (by simp [hk1])]; simp [hk1]
          · rw [bT (by simp [hk1])]; simp [beqF hk1]
        · have hb : before c.2.2 i = c.2.2[i - 1].1 := by
            simp only [before, if_neg hi0]
            rw [List.getD_eq_getElem?_getD]
            simp [show i - 1 < c.2.2.length by omega]
          rw [gT (by omega), dn1 i (by omega) (by omega), gT (by omega), gT (by omega), getD_at _ _ (i - 1) (by omega), hb]
          by_cases h4 : c.2.2[i - 1].1 ≥ c.2.2[i].1
          · have : decide (c.2.2[i - 1].1 < c.2.2[i].1) = false := by simp; omega
            rw [gT h4, this]; rfl
          · have : decide (c.2.2[i - 1].1 < c.2.2[i].1) = true := by simp; omega
            rw [gF h4, this]
            by_cases hk1 : kindT p.1 p.2.1 c.2.2[i].2.2 = 1
            · rw [bF (by simp [hk1])]; simp [hk1]
            · rw [bT (by simp [hk1])]; simp [beqF hk1]
theorem isCommand (p : DProgram) (c : DCommand) (hl : c.2.2.length ≤ 1048576) : impl_Program_isCommand p c = some (cmdOk p.1 p.2.1 c) := by
  rw [impl_Program_isCommand_eq, isCondition, some_bind]
  unfold cmdOk
  by_cases h2 : kindT p.1 p.2.1 c.1.2 = 2
  · rw [bF (by simp [h2]), h2]
    have := isCommand_L0 p c hl c.2.2.length 0 (by omega) (by simp [before])
    rw [show ((0 : Nat) : Int) = 0 from rfl, List.drop_zero] at this
    rw [this, some_bind]
    simp only [before, if_true]
    cases chgOk p.1 p.2.1 (-1) c.2.2 <;> rfl
  · rw [bT (by simp [h2]), beqF h2]; rfl
def goodProgram (p : DProgram) : Bool := (kindT p.1 p.2.1 p.2.2.1.2 == 2) && (decide (1 ≤ p.2.2.2.2.length ∧ p.2.2.2.2.length ≤ 6) && p.2.2.2.2.all fun c => cmdOk p.1 p.2.1 c)
theorem goodProgram_in {p : DProgram} (h : goodProgram p = true) : 1 ≤ p.1 ∧ p.1 ≤ 64 ∧ 1 ≤ p.2.1 ∧ p.2.1 ≤ 4 := by
  simp only [goodProgram, Bool.and_eq_true, beq_iff_eq] at h
  have := kindT_in (t := p.2.2.1.2) (by rw [h.1]; decide)
  omega
theorem spec_goodProgram (p : DProgram) (hs : SmProgram p) (hw : WfP p) : spec_GoodProgram p = some (goodProgram p) := by
  obtain ⟨_, s2, s3⟩ := hs
  have := loop_all p.2.2.2.2 (fun c => cmdOk p.1 p.2.1 c) (.inr () : Bool ⊕ Unit) (.inl false) (fun i => spec_GoodProgram_L0 p p.2.2.2 (p.2.2.2.2.length : Int) i) (fun i h => by
    rw [spec_GoodProgram_L0_eq, gT (by omega), gT (by omega), gT (by omega), getD_at _ _ i h, l7Command p _ (s3 _ (List.getElem_mem h)).2.1 (hw.2 _ (List.getElem_mem h)), some_bind, up1 i (by omega), bind_id]
    cases cmdOk p.1 p.2.1 p.2.2.2.2[i] <;> rfl) (by
    rw [spec_GoodProgram_L0_eq, gF (by omega)])
  rw [spec_GoodProgram_eq, l7Asks p _ hw.1, some_bind, l1In_eq, some_bind, this]
  unfold goodProgram
  by_cases h2 : kindT p.1 p.2.1 p.2.2.1.2 = 2
  · by_cases h5 : 1 ≤ p.2.2.2.2.length ∧ p.2.2.2.2.length ≤ 6
    · rw [bF (by simp [h2]), bF (by simp; omega), h2]
      simp only [h5, and_self, decide_true, some_bind]
      cases p.2.2.2.2.all fun c => cmdOk p.1 p.2.1 c <;> rfl
    · rw [bF (by simp [h2]), bT (by simp; omega)]
      simp [h5]
  · rw [bT (by simp [h2]), beqF h2]; rfl
theorem contains_command (p : DProgram) (hs : SmProgram p) : slices_ContainsFunc_Command_by_GoodProgram_1 p.2.2.2 (p, ()) = some (p.2.2.2.2.any fun c => !cmdOk p.1 p.2.1 c) := by
  obtain ⟨_, s2, s3⟩ := hs
  rw [slices_ContainsFunc_Command_by_GoodProgram_1_eq, slices_IndexFunc_Command_by_GoodProgram_1_eq]
  exact contains_of (loop_find p.2.2.2.2 (fun c => !cmdOk p.1 p.2.1 c) (fun i => slices_IndexFunc_Command_by_GoodProgram_1_L0 p.2.2.2 (p, ()) (p.2.2.2.2.length : Int) i) (fun i h => by
    rw [slices_IndexFunc_Command_by_GoodProgram_1_L0_eq, gT (by omega), gT (by omega), gT (by omega), getD_at _ _ i h, impl_GoodProgram_1_eq, isCommand p _ (s3 _ (List.getElem_mem h)).2.1, some_bind, some_bind, up1 i (by omega), bind_id]) (by rw [slices_IndexFunc_Command_by_GoodProgram_1_L0_eq, gF (by omega)]))
theorem impl_goodProgram (p : DProgram) (hs : SmProgram p) : impl_GoodProgram p = some (goodProgram p) := by
  rw [impl_GoodProgram_eq, isWide_eq, some_bind, isVars_eq, some_bind, isCondition, some_bind, contains_command p hs, some_bind]
  unfold goodProgram
  by_cases h2 : kindT p.1 p.2.1 p.2.2.1.2 = 2
  · have hin := kindT_in (t := p.2.2.1.2) (by rw [h2]; decide)
    rw [bF (by simp; omega), bF (by simp; omega), bF (by simp [h2]), h2]
    by_cases h3 : (p.2.2.2.2.length : Int) < 1
    · have h5 : ¬ (1 ≤ p.2.2.2.2.length ∧ p.2.2.2.2.length ≤ 6) := by omega
      rw [gT h3]
      simp [h5]
    · by_cases h4 : (p.2.2.2.2.length : Int) > 6
      · have h5 : ¬ (1 ≤ p.2.2.2.2.length ∧ p.2.2.2.2.length ≤ 6) := by omega
        rw [gF h3, gT h4]
        simp [h5]
      · have h5 : 1 ≤ p.2.2.2.2.length ∧ p.2.2.2.2.length ≤ 6 := by omega
        rw [gF h3, gF h4]
        simp [h5, List.not_any_eq_all_not]
  · rw [beqF h2]
    by_cases a1 : 1 ≤ p.1 ∧ p.1 ≤ 64
    · by_cases a2 : 1 ≤ p.2.1 ∧ p.2.1 ≤ 4
      · rw [bF (by simp; omega), bF (by simp; omega), bT (by simp)]; rfl
      · rw [bF (by simp; omega), bT (by simp; omega)]; rfl
    · rw [bT (by simp; omega)]; rfl
theorem bShr_eq (k : IntKind) (x : Int) (n : Nat) (h : n ≤ k.bits) : bShr k x (n : Int) = x / 2 ^ n := by
  unfold bShr
  rw [show min ((n : Int)).toNat k.bits = n by simp only [Int.toNat_natCast]; omega, Int.fdiv_eq_ediv_of_nonneg _ (Int.le_of_lt (Int.pow_pos (by decide)))]
theorem xor_all (a : Nat) (h : a < 2 ^ 64) : bXor .u64 18446744073709551615 (a : Int) = ((18446744073709551615 - a : Nat) : Int) := by
  have e : (BitVec.ofInt 64 18446744073709551615 ^^^ BitVec.ofInt 64 (a : Int)).toNat = 18446744073709551615 - a := by
    rw [show BitVec.ofInt 64 18446744073709551615 = BitVec.allOnes 64 by decide, BitVec.allOnes_xor, BitVec.toNat_not, BitVec.ofInt_natCast, BitVec.toNat_ofNat, Nat.mod_eq_of_lt h]
  show IntKind.u64.wrap (((BitVec.ofInt 64 18446744073709551615 ^^^ BitVec.ofInt 64 (a : Int)).toNat : Nat) : Int) = _
  rw [e]
  exact wru ⟨by omega, by omega⟩
theorem cut_mod {wide a : Int} (hw : 1 ≤ wide ∧ wide ≤ 64) (ha : U64 a) : spec_l1Cut wide a = some (a % (top wide + 1)) := by
  obtain ⟨n, rfl⟩ := Int.eq_ofNat_of_zero_le (show 0 ≤ wide by omega)
  obtain ⟨m, rfl⟩ := Int.eq_ofNat_of_zero_le ha.1
  have hm : m < 2 ^ 64 := by have := ha.2; simp; omega
  have e : ((2 : Int) ^ n) = ((2 ^ n : Nat) : Int) := by simp
  rw [cut_nat n m (by omega) hm, show min n 64 = n by omega]
  simp only [top, Int.toNat_natCast, e]
  rw [show ((2 ^ n : Nat) : Int) - 1 + 1 = ((2 ^ n : Nat) : Int) by omega]
  rfl
/-- The cut of a complement. -/
theorem cut_not {wide a : Int} (hw : 1 ≤ wide ∧ wide ≤ 64) (h0 : 0 ≤ a) (h1 : a ≤ top wide) : U64 (bXor .u64 18446744073709551615 a) ∧ bXor .u64 18446744073709551615 a % (top wide + 1) = top wide - a := by
  obtain ⟨n, rfl⟩ := Int.eq_ofNat_of_zero_le (show 0 ≤ wide by omega)
  obtain ⟨m, rfl⟩ := Int.eq_ofNat_of_zero_le h0
  have e : ((2 : Int) ^ n) = ((2 ^ n : Nat) : Int) := by simp
  simp only [top, Int.toNat_natCast, e] at h1 ⊢
  have h2 := pow_le64 (n := n) (by omega)
  have hm : m < 2 ^ 64 := by simp; omega
  rw [xor_all m hm]
  refine ⟨⟨by omega, by omega⟩, ?_⟩
  have hp : (2 : Nat) ^ n * 2 ^ (64 - n) = 18446744073709551616 := by rw [← Nat.pow_add, show n + (64 - n) = 64 by omega]
  have hq : 0 < (2 : Nat) ^ (64 - n) := Nat.two_pow_pos _
  have h3 : 18446744073709551615 - m = (2 ^ n - 1 - m) + 2 ^ n * (2 ^ (64 - n) - 1) := by
    rw [Nat.mul_sub, hp, Nat.mul_one]
    omega
  rw [h3, show ((2 ^ n : Nat) : Int) - 1 + 1 = ((2 ^ n : Nat) : Int) by omega, ← Int.natCast_emod, Nat.add_mul_mod_self_left, Nat.mod_eq_of_lt (by omega)]
  omega
theorem cut_all {wide : Int} (hw : 1 ≤ wide ∧ wide ≤ 64) : spec_l1Cut wide 18446744073709551615 = some (top wide) := by
  have ht := top_in hw
  have h := (cut_not hw (Int.le_refl 0) (by omega)).2
  rw [show (0 : Int) = ((0 : Nat) : Int) from rfl, xor_all 0 (by decide)] at h
  rw [cut_mod hw ⟨by omega, by omega⟩]
  congr 1
  simpa using h
/-- Words of a width. -/
def W5 (wide a : Int) : Prop := 0 ≤ a ∧ a ≤ top wide
theorem W5.u64 {wide a : Int} (hw : 1 ≤ wide ∧ wide ≤ 64) (h : W5 wide a) : U64 a := ⟨h.1, by have := h.2; have := top_in hw; omega⟩
/-- One operation on a stack of values: it takes its parts off the end and lays its own there. -/
def sstep {V : Type} (f : DNode → List V → V) (st : List V) (x : DNode) : List V :=
  st.take (st.length - (need x.1).1.toNat) ++ [f x (st.drop (st.length - (need x.1).1.toNat))]
/-- The stack ahead of the i-th operation. -/
def stackAt {V : Type} (f : DNode → List V → V) (t : List DNode) (i : Nat) : List V := (t.take i).foldl (sstep f) []
theorem stackAt_succ {V : Type} (f : DNode → List V → V) (t : List DNode) (i : Nat) (h : i < t.length) : stackAt f t (i + 1) = sstep f (stackAt f t i) t[i] := by
  unfold stackAt
  rw [List.take_succ_eq_append_getElem h, List.foldl_append]
  rfl
/-- No operation lacks its parts. -/
def Enough {V : Type} (f : DNode → List V → V) (t : List DNode) : Prop := ∀ i (h : i < t.length), (need t[i].1).1.toNat ≤ (stackAt f t i).length
/-- Where the tree of the i-th operation begins, the stack is what the tree leaves below its value. -/
theorem l2From {V : Type} (f : DNode → List V → V) (t : Bool × List DNode) (ht : t.2.length ≤ 48) (he : Enough f t.2) : ∀ (n i : Nat), i ≤ n → i < t.2.length →
    ∃ j : Nat, j ≤ i ∧ spec_l2From t (i : Int) = some (j : Int) ∧ ∃ v, stackAt f t.2 (i + 1) = stackAt f t.2 j ++ [v] := by
  intro n
  induction n with
  | zero =>
    intro i hi h
    obtain rfl : i = 0 := by omega
    obtain ⟨m, hm, hm2⟩ := need_two t.2[0].1
    have hen := he 0 h
    have hz : stackAt f t.2 0 = [] := rfl
    rw [hm, hz] at hen
    simp at hen
    subst hen
    refine ⟨0, by omega, ?_, ?_⟩
    · rw [spec_l2From_eq, gT (by omega), gT (by omega), show t.2.getD (Int.toNat ((0 : Nat) : Int)) (0, 0) = t.2[0] from getD_at t.2 _ 0 h, l2Need, some_bind, hm, spec_l2From_L0_eq, gF (by omega)]
      rfl
    · rw [stackAt_succ f t.2 0 h, hz]
      simp only [sstep, List.take_nil]
      exact ⟨_, rfl⟩
  | succ n ih =>
    intro i hi h
    obtain ⟨m, hm, hm2⟩ := need_two t.2[i].1
    have hen := he i h
    simp only [hm, Int.toNat_natCast] at hen
    have e0 : spec_l2From t (i : Int) = spec_l2From_L0 t (m : Int) (i : Int) := by
      rw [spec_l2From_eq, gT (by omega), gT (by omega), getD_at t.2 _ i h, l2Need, some_bind, hm, bind_id]
    have es : stackAt f t.2 (i + 1) = (stackAt f t.2 i).take ((stackAt f t.2 i).length - m) ++ [f t.2[i] ((stackAt f t.2 i).drop ((stackAt f t.2 i).length - m))] := by
      rw [stackAt_succ f t.2 i h]
      simp only [sstep, hm, Int.toNat_natCast]
    rcases (show m = 0 ∨ m = 1 ∨ m = 2 by omega) with rfl | rfl | rfl
    · refine ⟨i, by omega, ?_, f t.2[i] ((stackAt f t.2 i).drop ((stackAt f t.2 i).length - 0)), ?_⟩
      · rw [e0, spec_l2From_L0_eq, gF (by omega)]
      · rw [es, Nat.sub_zero, List.take_length]
    · have hi0 : 0 < i := by
        rcases Nat.eq_zero_or_pos i with rfl | h0
        · have hz : stackAt f t.2 0 = [] := rfl
          rw [hz] at hen
          simp at hen
        · exact h0
      obtain ⟨j, hj, ej, v, ev⟩ := ih (i - 1) (by omega) (by omega)
      rw [show i - 1 + 1 = i by omega] at ev
      refine ⟨j, by omega, ?_, ?_⟩
      · rw [e0, spec_l2From_L0_eq, gT (by omega), dn1 i (by omega) hi0, ej, some_bind, spec_l2From_L0_eq, gF (by rw [wr (by omega)]; omega)]
        rfl
      · rw [es, ev]
        simp only [List.length_append, List.length_singleton, Nat.add_sub_cancel]
        rw [List.take_left' rfl]
        exact ⟨_, rfl⟩
    · have hi0 : 0 < i := by
        rcases Nat.eq_zero_or_pos i with rfl | h0
        · have hz : stackAt f t.2 0 = [] := rfl
          rw [hz] at hen
          simp at hen
        · exact h0
      obtain ⟨j, hj, ej, v, ev⟩ := ih (i - 1) (by omega) (by omega)
      rw [show i - 1 + 1 = i by omega] at ev
      have hj0 : 0 < j := by
        rcases Nat.eq_zero_or_pos j with rfl | h0
        · rw [ev] at hen
          have hz : stackAt f t.2 0 = [] := rfl
          rw [hz] at hen
          simp at hen
        · exact h0
      obtain ⟨j2, hj2, ej2, v2, ev2⟩ := ih (j - 1) (by omega) (by omega)
      rw [show j - 1 + 1 = j by omega] at ev2
      refine ⟨j2, by omega, ?_, ?_⟩
      · rw [e0, spec_l2From_L0_eq, gT (by omega), dn1 i (by omega) hi0, ej, some_bind, spec_l2From_L0_eq, gT (by rw [wr (by omega)]; omega), dn1 j (by omega) hj0, ej2, some_bind, spec_l2From_L0_eq, gF (by rw [wr (by rw [wr (by omega)]; omega), wr (by omega)]; omega)]
        rfl
      · rw [es, ev, ev2]
        simp only [List.append_assoc, List.length_append, List.length_singleton, List.cons_append, List.nil_append, List.length_cons, List.length_nil]
        rw [show (stackAt f t.2 j2).length + (0 + 1 + 1) - 2 = (stackAt f t.2 j2).length by omega, List.take_left' rfl]
        exact ⟨_, rfl⟩
theorem stackAt_zero {V : Type} (f : DNode → List V → V) (t : List DNode) : stackAt f t 0 = [] := rfl
theorem sstep_of {V : Type} (f : DNode → List V → V) (st args : List V) (x : DNode) {p : Int × Int} (m : Nat) (hn : need x.1 = ((m : Int), p)) (hm : args.length = m) : sstep f (st ++ args) x = st ++ [f x args] := by
  simp only [sstep, hn, Int.toNat_natCast]
  have : (st ++ args).length - m = st.length := by rw [List.length_append]; omega
  rw [this, List.take_left' rfl, List.drop_left' rfl]
theorem kstep_some {wide vars : Int} {ks ks' : List Int} {x : DNode} (h : kstep wide vars ks x = some ks') :
    (need x.1).2.2 ≠ 0 ∧ leafOk wide vars x.1 x.2 = true ∧ (need x.1).1.toNat ≤ ks.length ∧ (ks.drop (ks.length - (need x.1).1.toNat)).all (fun y => y == (need x.1).2.1) = true ∧ ks' = ks.take (ks.length - (need x.1).1.toNat) ++ [(need x.1).2.2] := by
  unfold kstep at h
  split at h
  · simp at h
  · split at h
    · split at h
      · simp at h
      · split at h
        · rename_i h1 h2 h3 h4
          simp only [Option.some.injEq] at h
          refine ⟨h1, h2, ?_, h4, h.symm⟩
          obtain ⟨m, hm, _⟩ := need_two x.1
          rw [hm] at h3 ⊢
          omega
        · simp at h
    · simp at h
theorem need_op {op : Int} {m p o : Int} (h : need op = (m, p, o)) (ho : o ≠ 0) : (m = 0 ∧ o = 1 ∧ (op = 1 ∨ op = 2)) ∨ (m = 0 ∧ o = 2 ∧ op = 20) ∨ (m = 1 ∧ p = 1 ∧ o = 1 ∧ op = 13) ∨ (m = 1 ∧ p = 2 ∧ o = 2 ∧ op = 19) ∨ (m = 2 ∧ p = 1 ∧ o = 1 ∧ 3 ≤ op ∧ op ≤ 12) ∨ (m = 2 ∧ p = 1 ∧ o = 2 ∧ 14 ≤ op ∧ op ≤ 16) ∨ (m = 2 ∧ p = 2 ∧ o = 2 ∧ (op = 17 ∨ op = 18)) := by
  unfold need at h
  by_cases c1 : op = 1 ∨ op = 2
  · rw [if_pos c1] at h
    cases h
    exact .inl ⟨rfl, rfl, c1⟩
  rw [if_neg c1] at h
  by_cases c2 : op = 20
  · rw [if_pos c2] at h
    cases h
    exact .inr (.inl ⟨rfl, rfl, c2⟩)
  rw [if_neg c2] at h
  by_cases c3 : op = 13
  · rw [if_pos c3] at h
    cases h
    exact .inr (.inr (.inl ⟨rfl, rfl, rfl, c3⟩))
  rw [if_neg c3] at h
  by_cases c4 : op = 19
  · rw [if_pos c4] at h
    cases h
    exact .inr (.inr (.inr (.inl ⟨rfl, rfl, rfl, c4⟩)))
  rw [if_neg c4] at h
  by_cases c5 : 3 ≤ op ∧ op ≤ 12
  · rw [if_pos c5] at h
    cases h
    exact .inr (.inr (.inr (.inr (.inl ⟨rfl, rfl, rfl, c5⟩))))
  rw [if_neg c5] at h
  by_cases c6 : 14 ≤ op ∧ op ≤ 16
  · rw [if_pos c6] at h
    cases h
    exact .inr (.inr (.inr (.inr (.inr (.inl ⟨rfl, rfl, rfl, c6⟩)))))
  rw [if_neg c6] at h
  by_cases c7 : op = 17 ∨ op = 18
  · rw [if_pos c7] at h
    cases h
    exact .inr (.inr (.inr (.inr (.inr (.inr ⟨rfl, rfl, rfl, c7⟩)))))
  rw [if_neg c7] at h
  cases h
  exact absurd rfl ho
inductive TypedV (wide : Int) : List Int → List Int → Prop
  | nil : TypedV wide [] []
  | snoc {ks st : List Int} {k v : Int} : TypedV wide ks st → W5 wide v → (k = 2 → v ≤ 1) → TypedV wide (ks ++ [k]) (st ++ [v])
theorem TypedV.inv {wide : Int} {ks st : List Int} (h : TypedV wide ks st) : (ks = [] ∧ st = []) ∨ ∃ ks' st' k v, ks = ks' ++ [k] ∧ st = st' ++ [v] ∧ TypedV wide ks' st' ∧ W5 wide v ∧ (k = 2 → v ≤ 1) := by
  cases h with
  | nil => exact .inl ⟨rfl, rfl⟩
  | snoc h1 h2 h3 => exact .inr ⟨_, _, _, _, rfl, rfl, h1, h2, h3⟩
theorem TypedV.len {wide : Int} {ks st : List Int} (h : TypedV wide ks st) : ks.length = st.length := by
  induction h with
  | nil => rfl
  | snoc _ _ _ ih => simp [ih]
theorem all_loop {α : Type} (l : List α) (q : α → Bool) (F : Int → Option (Bool ⊕ Unit))
    (hs : ∀ (i : Nat) (h : i < l.length), F (i : Int) = bif !q l[i] then some (.inl false) else F ((i + 1 : Nat) : Int)) (he : F (l.length : Int) = some (.inr ())) : F 0 = some (if l.all q = true then .inr () else .inl false) := by
  have := loop_all l q (β := Bool ⊕ Unit) (.inr ()) (.inl false) F (fun i h => by rw [hs i h]; cases q l[i] <;> rfl) he
  rw [this]
  cases l.all q <;> rfl
theorem same_loop {α : Type} [DecidableEq α] (a b : List α) (h : a.length = b.length) (F : Int → Option (Bool ⊕ Unit)) (hs : ∀ (i : Nat) (h1 : i < a.length) (h2 : i < b.length), F (i : Int) = bif !decide (a[i] = b[i]) then some (.inl false) else F ((i + 1 : Nat) : Int)) (he : F (a.length : Int) = some (.inr ())) :
    F 0 = some (if a = b then .inr () else .inl false) := by
  have key : ∀ (d i : Nat), i + d = a.length → F (i : Int) = some (if a.drop i = b.drop i then .inr () else .inl false) := by
    intro d
    induction d with
    | zero =>
      intro i hi
      obtain rfl : i = a.length := by omega
      rw [he, List.drop_length, h, List.drop_length, if_pos rfl]
    | succ d ih =>
      intro i hi
      have e1 : a.drop i = a[i] :: a.drop (i + 1) := List.drop_eq_getElem_cons (by omega)
      have e2 : b.drop i = b[i] :: b.drop (i + 1) := List.drop_eq_getElem_cons (by omega)
      rw [hs i (by omega) (by omega), ih (i + 1) (by omega), e1, e2]
      by_cases h1 : a[i] = b[i]
      · by_cases h2 : a.drop (i + 1) = b.drop (i + 1)
        · rw [if_pos h2, if_pos (by rw [h1, h2]), decide_eq_true h1]; rfl
        · rw [if_neg h2, if_neg (by rw [h1]; intro e; exact h2 (List.cons.inj e).2), decide_eq_true h1]; rfl
      · rw [if_neg (fun e => h1 (List.cons.inj e).1), decide_eq_false h1]; rfl
  have := key a.length 0 (by omega)
  simpa using this
theorem chgOk_in (wide vars : Int) : ∀ (l : List DChange) (p : Int), chgOk wide vars p l = true → ∀ d ∈ l, p < d.1 ∧ d.1 < vars ∧ kindT wide vars d.2.2 = 1 := by
  intro l
  induction l with
  | nil => intro p _ d hd; simp at hd
  | cons c cs ih =>
    intro p h d hd
    simp only [chgOk, Bool.and_eq_true, decide_eq_true_eq, beq_iff_eq] at h
    rcases List.mem_cons.1 hd with rfl | hd
    · exact ⟨h.1.1.1, h.1.1.2, h.1.2⟩
    · have := ih c.1 h.2 d hd
      exact ⟨by omega, this.2⟩
theorem cmd_in {p : DProgram} (h : goodProgram p = true) : ∀ c ∈ p.2.2.2.2, kindT p.1 p.2.1 c.1.2 = 2 ∧ ∀ d ∈ c.2.2, 0 ≤ d.1 ∧ d.1 < p.2.1 ∧ kindT p.1 p.2.1 d.2.2 = 1 := by
  intro c hc
  simp only [goodProgram, Bool.and_eq_true] at h
  have := (List.all_eq_true.1 h.2.2) c hc
  simp only [cmdOk, Bool.and_eq_true, beq_iff_eq] at this
  refine ⟨this.1, fun d hd => ?_⟩
  have := chgOk_in _ _ _ _ this.2 d hd
  exact ⟨by omega, this.2⟩
/-- The span of an operation of two parts; e is the greatest word. -/
def two (e op : Int) (a b : DSpan) : DSpan :=
  if op = 3 then (if a.2 + b.2 ≤ e then (a.1 + b.1, a.2 + b.2) else (0, e))
  else if op = 5 then (if a.2 * b.2 ≤ e then (a.1 * b.1, a.2 * b.2) else (0, e))
  else if op = 4 then (if b.2 ≤ a.1 then (a.1 - b.2, a.2 - b.1) else (0, e))
  else if op = 6 then (if 0 < b.1 then (a.1 / b.2, a.2 / b.1) else (0, e))
  else if op = 7 then (if 0 < b.1 ∧ b.2 - 1 < a.2 then (0, b.2 - 1) else (0, a.2))
  else if op = 12 then (0, a.2)
  else if op = 8 then (0, min a.2 b.2)
  else if op = 9 then (max a.1 b.1, e)
  else if op = 14 then (if a.2 < b.1 ∨ b.2 < a.1 then (0, 0) else if a.1 = a.2 ∧ a.1 = b.1 ∧ a.2 = b.2 then (1, 1) else (0, 1))
  else if op = 15 then (if a.2 < b.1 then (1, 1) else if b.2 ≤ a.1 then (0, 0) else (0, 1))
  else if op = 16 then (0, 1)
  else if op = 17 then (min a.1 b.1, min a.2 b.2)
  else if op = 18 then (max a.1 b.1, max a.2 b.2)
  else (0, e)
/-- A span within the words. -/
def Fits (e : Int) (a : DSpan) : Prop := 0 ≤ a.1 ∧ a.1 ≤ a.2 ∧ a.2 ≤ e
theorem prod_le {a b c d : Int} (h0 : 0 ≤ a) (h1 : a ≤ b) (h2 : 0 ≤ c) (h3 : c ≤ d) : 0 ≤ a * c ∧ a * c ≤ b * d := ⟨Int.mul_nonneg h0 h2, Int.mul_le_mul h1 h3 h2 (by omega)⟩
theorem div_le_of {a b c d : Int} (h0 : 0 ≤ a) (h1 : a ≤ b) (h2 : 0 < c) (h3 : c ≤ d) : 0 ≤ a / d ∧ a / d ≤ b / c ∧ b / c ≤ b := by
  refine ⟨Int.ediv_nonneg h0 (by omega), ?_, Int.ediv_le_self _ (by omega)⟩
  have h5 : a / d * c ≤ a := by
    have e1 : a / d * c ≤ a / d * d := Int.mul_le_mul_of_nonneg_left h3 (Int.ediv_nonneg h0 (by omega))
    have e2 : a / d * d ≤ a := Int.ediv_mul_le _ (by omega)
    omega
  exact (Int.le_ediv_iff_mul_le h2).2 (by omega)
theorem l18Least (a b : Int) : spec_l18Least a b = some (min a b) := by
  rw [spec_l18Least_eq]
  by_cases h : a < b
  · rw [gT h, Int.min_eq_left (by omega)]
  · rw [gF h, Int.min_eq_right (by omega)]
theorem l18Most (a b : Int) : spec_l18Most a b = some (max a b) := by
  rw [spec_l18Most_eq]
  by_cases h : a > b
  · rw [gT h, Int.max_eq_left (by omega)]
  · rw [gF h, Int.max_eq_right (by omega)]
theorem bif_max (a b : Int) : (bif decide (a < b) then b else a) = max a b := by
  by_cases h : a < b
  · rw [gT h, Int.max_eq_right (by omega)]
  · rw [gF h, Int.max_eq_left (by omega)]
theorem bif_min (a b : Int) : (bif decide (b < a) then b else a) = min a b := by
  by_cases h : b < a
  · rw [gT h, Int.min_eq_right (by omega)]
  · rw [gF h, Int.min_eq_left (by omega)]
theorem iteP {α : Type} {P : α → Prop} {c : Prop} [Decidable c] {x y : α} (h1 : c → P x) (h2 : ¬ c → P y) : P (if c then x else y) := by
  by_cases h : c
  · rw [if_pos h]
    exact h1 h
  · rw [if_neg h]
    exact h2 h
theorem two_fits (e op : Int) (a b : DSpan) (he : 1 ≤ e) (ha : Fits e a) (hb : Fits e b) : Fits e (two e op a b) := by
  obtain ⟨a0, a1⟩ := a
  obtain ⟨b0, b1⟩ := b
  simp only [Fits] at ha hb
  have hp := prod_le ha.1 ha.2.1 hb.1 hb.2.1
  unfold two
  repeat' (refine iteP (P := Fits e) ?_ ?_ <;> intro)
  all_goals simp only [Fits] at *
  all_goals first
    | omega
    | (have hd := div_le_of ha.1 ha.2.1 (by assumption : 0 < b0) hb.2.1; omega)
/-- No more than one. -/
def Ask (a : DSpan) : Prop := a.2 ≤ 1
theorem two_ask (e op : Int) (a b : DSpan) (ho : op = 14 ∨ op = 15 ∨ op = 16 ∨ ((op = 17 ∨ op = 18) ∧ a.2 ≤ 1 ∧ b.2 ≤ 1)) : Ask (two e op a b) := by
  obtain ⟨a0, a1⟩ := a
  obtain ⟨b0, b1⟩ := b
  unfold two
  repeat' (refine iteP (P := Ask) ?_ ?_ <;> intro)
  all_goals simp only [Ask] at *
  all_goals omega
theorem beq_dec (x y : Int) : (x == y) = decide (x = y) := rfl
theorem mul64 (x y : Int) (hx : U64 x) (hy : U64 y) : bits_Mul64 x y = some (x * y / 18446744073709551616, x * y % 18446744073709551616) := by
  have h1 : ∀ z, 0 ≤ z → z < 18446744073709551616 → bAnd .u64 z 4294967295 = z % 4294967296 := fun z a b => Go.and_low32 z a b
  have h2 : ∀ z, bShr .u64 z 32 = z / 4294967296 := fun z => bShr_eq .u64 z 32 (by decide)
  have := Go.mul64_arith x y hx.1 hx.2 hy.1 hy.2
  rw [bits_Mul64_eq, h1 x hx.1 hx.2, h1 y hy.1 hy.2]
  simp only [wru_mod, h2]
  rw [h1 _ (Int.emod_nonneg _ (by decide)) (Int.emod_lt_of_pos _ (by decide)), this]
theorem u64_of {x : Int} (h0 : 0 ≤ x) (h1 : x ≤ 18446744073709551615) : IntKind.u64.wrap x = x := wru ⟨h0, by omega⟩
/-- The program's span of two parts. -/
theorem spanOfTwo (e op : Int) (a b : DSpan) (he : 1 ≤ e ∧ e ≤ 18446744073709551615) (ha : Fits e a) (hb : Fits e b) (ho : (3 ≤ op ∧ op ≤ 12) ∨ (14 ≤ op ∧ op ≤ 18)) : impl_spanOfTwo op (0, e) a b = some (two e op a b) := by
  obtain ⟨a0, a1⟩ := a
  obtain ⟨b0, b1⟩ := b
  simp only [Fits] at ha hb
  have hp := prod_le ha.1 ha.2.1 hb.1 hb.2.1
  rw [impl_spanOfTwo_eq]
  unfold two
  rcases (show op = 3 ∨ op = 4 ∨ op = 5 ∨ op = 6 ∨ op = 7 ∨ op = 8 ∨ op = 9 ∨ op = 10 ∨ op = 11 ∨ op = 12 ∨ op = 14 ∨ op = 15 ∨ op = 16 ∨ op = 17 ∨ op = 18 by omega) with rfl | rfl | rfl | rfl | rfl | rfl | rfl | rfl | rfl | rfl | rfl | rfl | rfl | rfl | rfl
  all_goals simp only [beq_dec, Int.reduceEq, decide_true, decide_false, cond_true, cond_false, if_true, if_false, bind_id, bif_max, bif_min]
  · rw [impl_sumSpan_eq]
    simp only [Int.add_zero]
    by_cases h1 : a1 + b1 ≤ e
    · rw [if_pos h1, bT (by rw [beq_iff_eq]; omega), gT (by omega), u64_of (by omega) (by omega), Int.emod_eq_of_lt (by omega) (by omega)]
    · rw [if_neg h1]
      by_cases h2 : (a1 + b1) / 18446744073709551616 = 0
      · rw [bT (by rw [beq_iff_eq]; exact h2), gF (by omega)]
      · rw [bF (beqF h2)]
  · by_cases h1 : b1 ≤ a0
    · rw [gT h1, if_pos h1, u64_of (by omega) (by omega), u64_of (by omega) (by omega)]
    · rw [gF h1, if_neg h1]
  · rw [impl_productSpan_eq]
    simp only [mul64 a1 b1 ⟨by omega, by omega⟩ ⟨by omega, by omega⟩, some_bind]
    by_cases h1 : a1 * b1 ≤ e
    · rw [if_pos h1, bT (by rw [beq_iff_eq]; omega), gT (by omega), u64_of (by omega) (by omega), Int.emod_eq_of_lt (by omega) (by omega)]
    · rw [if_neg h1]
      by_cases h2 : (a1 * b1) / 18446744073709551616 = 0
      · rw [bT (by rw [beq_iff_eq]; exact h2), gF (by omega)]
      · rw [bF (beqF h2)]
  · by_cases h1 : 0 < b0
    · have hd := div_le_of ha.1 ha.2.1 h1 hb.2.1
      rw [gT h1, gF (by omega), gF (by omega), if_pos h1, Int.tdiv_eq_ediv_of_nonneg (by omega), Int.tdiv_eq_ediv_of_nonneg (by omega), u64_of (by omega) (by omega), u64_of (by omega) (by omega)]
    · rw [gF h1, if_neg h1]
  · by_cases h1 : 0 < b0
    · rw [gT h1, u64_of (by omega) (by omega)]
      by_cases h2 : b1 - 1 < a1
      · rw [gT h2, if_pos ⟨h1, h2⟩]
      · rw [gF h2, if_neg (fun h => h2 h.2)]
    · rw [gF h1, if_neg (fun h => h1 h.1)]
  · rw [impl_meetSpans_eq]
    simp only [bif_max, bif_min]
    by_cases h1 : max a0 b0 > min a1 b1
    · rw [gT h1, some_bind, if_pos (by omega)]
      have h3 : ¬ (a0 = b0 ∧ a1 = b1) := by omega
      rw [bF (by rw [← Bool.decide_and]; exact decide_eq_false h3), impl_comparison_eq]
      rfl
    · rw [gF h1, some_bind, if_neg (by omega)]
      by_cases h3 : a0 = b0 ∧ a1 = b1
      · rw [bT (by rw [← Bool.decide_and]; exact decide_eq_true h3), impl_comparison_eq]
        by_cases h5 : a0 = a1
        · rw [gT h5, if_pos ⟨h5, h3⟩]
        · rw [gF h5, if_neg (fun h => h5 h.1)]
          rfl
      · rw [bF (by rw [← Bool.decide_and]; exact decide_eq_false h3), if_neg (fun h => h3 h.2), impl_comparison_eq]
        rfl
  · rw [impl_comparison_eq]
    by_cases h1 : a1 < b0
    · rw [gT h1, if_pos h1]
    · rw [gF h1, if_neg h1]
      by_cases h2 : b1 ≤ a0
      · rw [gT h2, if_pos h2]
      · rw [gF h2, if_neg h2]
/-- The reference's. -/
theorem l18Num {wide op : Int} (hw : 1 ≤ wide ∧ wide ≤ 64) (a b : DSpan) (ho : 3 ≤ op ∧ op ≤ 12) (ha : Fits (top wide) a) (hb : Fits (top wide) b) : spec_l18Num wide op a b = some (two (top wide) op a b) := by
  have he := top_in hw
  have hc := cut_all hw
  generalize hE : top wide = e at *
  obtain ⟨a0, a1⟩ := a
  obtain ⟨b0, b1⟩ := b
  simp only [Fits] at ha hb
  have hp := prod_le ha.1 ha.2.1 hb.1 hb.2.1
  rw [spec_l18Num_eq, hc, some_bind]
  unfold two
  rcases (show op = 3 ∨ op = 4 ∨ op = 5 ∨ op = 6 ∨ op = 7 ∨ op = 8 ∨ op = 9 ∨ op = 10 ∨ op = 11 ∨ op = 12 by omega) with rfl | rfl | rfl | rfl | rfl | rfl | rfl | rfl | rfl | rfl
  all_goals simp only [beq_dec, Int.reduceEq, decide_true, decide_false, cond_true, cond_false, if_true, if_false, bind_id, l18Least, l18Most, some_bind]
  · by_cases h1 : a1 + b1 ≤ e
    · rw [u64_of (by omega) (by omega), gT (by omega), if_pos h1, u64_of (by omega) (by omega), u64_of (by omega) (by omega)]
    · rw [u64_of (by omega) (by omega), gF (by omega), if_neg h1]
  · by_cases h1 : b1 ≤ a0
    · rw [gT h1, if_pos h1, u64_of (by omega) (by omega), u64_of (by omega) (by omega)]
    · rw [gF h1, if_neg h1]
  · rw [spec_l18Fits_eq, hc]
    by_cases hz : b1 = 0
    · have h1 : a1 * b1 ≤ e := by rw [hz]; omega
      have h2 : a0 * b0 = 0 := by rw [show b0 = 0 by omega]; omega
      rw [bT (by rw [beq_iff_eq]; exact hz), some_bind, cond_true, if_pos h1, u64_of (by omega) (by omega), u64_of (by omega) (by omega)]
    · have h2 : IntKind.u64.wrap (e.tdiv b1) = e / b1 := by
        rw [Int.tdiv_eq_ediv_of_nonneg (by omega), u64_of (Int.ediv_nonneg (by omega) (by omega)) (by have := Int.ediv_le_self (a := e) b1 (by omega); omega)]
      have h3 : (a1 ≤ e / b1) ↔ a1 * b1 ≤ e := Int.le_ediv_iff_mul_le (by omega)
      rw [bF (beqF hz), some_bind, bF (beqF hz), some_bind, h2]
      by_cases h1 : a1 * b1 ≤ e
      · rw [decide_eq_true (h3.2 h1), cond_true, if_pos h1, u64_of (by omega) (by omega), u64_of (by omega) (by omega)]
      · rw [decide_eq_false (fun h => h1 (h3.1 h)), cond_false, if_neg h1]
  · by_cases h1 : 0 < b0
    · have hd := div_le_of ha.1 ha.2.1 h1 hb.2.1
      rw [gT h1, gF (by omega), gF (by omega), if_pos h1, Int.tdiv_eq_ediv_of_nonneg (by omega), Int.tdiv_eq_ediv_of_nonneg (by omega), u64_of (by omega) (by omega), u64_of (by omega) (by omega)]
    · rw [gF h1, if_neg h1]
  · by_cases h1 : 0 < b0
    · rw [gT h1, u64_of (by omega) (by omega)]
      by_cases h2 : b1 - 1 < a1
      · rw [if_pos ⟨h1, h2⟩, Int.min_eq_right (by omega)]
      · rw [if_neg (fun h => h2 h.2), Int.min_eq_left (by omega)]
    · rw [gF h1, if_neg (fun h => h1 h.1)]
theorem l18Ask (e op : Int) (a b : DSpan) (ho : 14 ≤ op ∧ op ≤ 18) : spec_l18Ask op a b = some (two e op a b) := by
  obtain ⟨a0, a1⟩ := a
  obtain ⟨b0, b1⟩ := b
  rw [spec_l18Ask_eq]
  unfold two
  rcases (show op = 14 ∨ op = 15 ∨ op = 16 ∨ op = 17 ∨ op = 18 by omega) with rfl | rfl | rfl | rfl | rfl
  all_goals simp only [beq_dec, Int.reduceEq, decide_true, decide_false, cond_true, cond_false, if_true, if_false, bind_id, l18Least, l18Most, some_bind]
  · by_cases h1 : a1 < b0
    · rw [gT h1, if_pos (.inl h1)]
    · by_cases h2 : b1 < a0
      · rw [gF h1, gT h2, if_pos (.inr h2)]
      · rw [gF h1, gF h2, if_neg (by omega)]
        by_cases h3 : a0 = a1
        · rw [gT h3]
          by_cases h4 : a0 = b0 ∧ a1 = b1
          · rw [bT (by rw [← Bool.decide_and]; exact decide_eq_true h4), if_pos ⟨h3, h4⟩]
          · rw [bF (by rw [← Bool.decide_and]; exact decide_eq_false h4), if_neg (fun h => h4 h.2)]
        · rw [gF h3, if_neg (fun h => h3 h.1)]
  · by_cases h1 : a1 < b0
    · rw [gT h1, if_pos h1]
    · rw [gF h1, if_neg h1]
      by_cases h2 : b1 ≤ a0
      · rw [gT h2, if_pos h2]
      · rw [gF h2, if_neg h2]
/-- The span of an operation with its parts' spans. -/
def sop (wide : Int) (s : List DSpan) (x : DNode) : List DSpan → DSpan
  | [] => if x.1 = 2 then s.getD x.2.toNat (0, 0) else (x.2, x.2)
  | [b] => if x.1 = 13 then (top wide - b.2, top wide - b.1) else (1 - b.2, 1 - b.1)
  | [a, b] => two (top wide) x.1 a b
  | _ => (0, 0)
inductive TypedS (wide : Int) : List Int → List DSpan → Prop
  | nil : TypedS wide [] []
  | snoc {ks : List Int} {st : List DSpan} {k : Int} {v : DSpan} : TypedS wide ks st → Fits (top wide) v → (k = 2 → v.2 ≤ 1) → TypedS wide (ks ++ [k]) (st ++ [v])
theorem TypedS.invS {wide : Int} {ks : List Int} {st : List DSpan} (h : TypedS wide ks st) : (ks = [] ∧ st = []) ∨ ∃ ks' st' k v, ks = ks' ++ [k] ∧ st = st' ++ [v] ∧ TypedS wide ks' st' ∧ Fits (top wide) v ∧ (k = 2 → v.2 ≤ 1) := by
  cases h with
  | nil => exact .inl ⟨rfl, rfl⟩
  | snoc h1 h2 h3 => exact .inr ⟨_, _, _, _, rfl, rfl, h1, h2, h3⟩
theorem TypedS.lenS {wide : Int} {ks : List Int} {st : List DSpan} (h : TypedS wide ks st) : ks.length = st.length := by
  induction h with
  | nil => rfl
  | snoc _ _ _ ih => simp [ih]
theorem typedS_step (wide : Int) (hw : 1 ≤ wide ∧ wide ≤ 64) (s : List DSpan) (hs : ∀ v ∈ s, Fits (top wide) v) (x : DNode) (hx : U64 x.2) {ks ks' : List Int} {st : List DSpan}
    (h : kstep wide (s.length : Int) ks x = some ks') (ht : TypedS wide ks st) : TypedS wide ks' (sstep (sop wide s) st x) := by
  obtain ⟨h1, h2, h3, h4, rfl⟩ := kstep_some h
  have he := top_in (wide := wide) (by omega)
  obtain ⟨m, p, o, hn⟩ : ∃ m p o, need x.1 = (m, p, o) := ⟨_, _, _, rfl⟩
  have hlen := ht.lenS
  simp only [sstep, hn] at h1 h3 h4 ⊢
  rw [← hlen]
  rcases need_op hn h1 with ⟨rfl, rfl, ho⟩ | ⟨rfl, rfl, ho⟩ | ⟨rfl, rfl, rfl, ho⟩ | ⟨rfl, rfl, rfl, ho⟩ | ⟨rfl, rfl, rfl, ho⟩ | ⟨rfl, rfl, rfl, ho⟩ | ⟨rfl, rfl, rfl, ho⟩
  · simp only [Int.toNat_zero, Nat.sub_zero, List.take_length]
    rw [hlen, List.take_length, List.drop_length]
    refine .snoc ht ?_ (fun h => absurd h (by decide))
    unfold leafOk at h2
    rcases ho with ho | ho
    · rw [if_pos ho, goodWord_iff] at h2
      simp only [sop, ho]
      exact ⟨hx.1, Int.le_refl _, h2.2.2⟩
    · rw [if_neg (by omega), if_pos ho, decide_eq_true_eq] at h2
      simp only [sop, ho, if_true]
      apply hs
      rw [List.getD_eq_getElem?_getD, List.getElem?_eq_getElem (by have := hx.1; omega)]
      exact List.getElem_mem _
  · simp only [Int.toNat_zero, Nat.sub_zero, List.take_length]
    rw [hlen, List.take_length, List.drop_length]
    unfold leafOk at h2
    rw [if_neg (by omega), if_neg (by omega), if_pos ho, decide_eq_true_eq] at h2
    have h0 := hx.1
    have hne : ¬ x.1 = 2 := by omega
    refine .snoc ht ?_ (fun _ => ?_)
    · simp only [sop, if_neg hne]
      exact ⟨h0, Int.le_refl _, by dsimp only; omega⟩
    · simp only [sop, if_neg hne]
      omega
  · rcases ht.invS with ⟨rfl, rfl⟩ | ⟨ks, st, k, v, rfl, rfl, t1, t2, t3⟩
    · simp at h3
    · have l1 := t1.lenS
      have e1 : (ks ++ [k]).length - (1 : Int).toNat = ks.length := by simp
      rw [e1]
      rw [List.take_left' rfl, List.take_left' l1.symm, List.drop_left' l1.symm]
      simp only [sop, ho, if_true]
      refine .snoc t1 ?_ (fun h => absurd h (by decide))
      obtain ⟨f1, f2, f3⟩ := t2
      exact ⟨by dsimp only; omega, by dsimp only; omega, by dsimp only; omega⟩
  · rcases ht.invS with ⟨rfl, rfl⟩ | ⟨ks, st, k, v, rfl, rfl, t1, t2, t3⟩
    · simp at h3
    · have l1 := t1.lenS
      have e1 : (ks ++ [k]).length - (1 : Int).toNat = ks.length := by simp
      rw [e1] at h4 ⊢
      rw [List.drop_left' rfl] at h4
      have hk : k = 2 := by simpa using h4
      rw [List.take_left' rfl, List.take_left' l1.symm, List.drop_left' l1.symm]
      have hne : ¬ x.1 = 13 := by omega
      simp only [sop, if_neg hne]
      obtain ⟨f1, f2, f3⟩ := t2
      have f4 := t3 hk
      exact .snoc t1 ⟨by dsimp only; omega, by dsimp only; omega, by dsimp only; omega⟩ (fun _ => by dsimp only; omega)
  all_goals
    rcases ht.invS with ⟨rfl, rfl⟩ | ⟨ks, st, k, v, rfl, rfl, t1, t2, t3⟩
    · simp at h3
    · rcases t1.invS with ⟨rfl, rfl⟩ | ⟨ks, st, k', v', rfl, rfl, s1, s2, s3⟩
      · simp at h3
      · have l1 := s1.lenS
        have e1 : (ks ++ [k'] ++ [k]).length - (2 : Int).toNat = ks.length := by simp
        rw [e1] at h4 ⊢
        rw [List.append_assoc] at h4
        rw [List.drop_left' rfl] at h4
        simp only [List.cons_append, List.nil_append, List.all_cons, List.all_nil, Bool.and_true, Bool.and_eq_true, beq_iff_eq] at h4
        rw [List.append_assoc ks, List.append_assoc st, List.take_left' rfl, List.take_left' l1.symm, List.drop_left' l1.symm]
        have q1 := two_fits (top wide) x.1 v' v he.1 s2 t2
        have q2 := two_ask (top wide) x.1 v' v
        refine .snoc s1 q1 ?_
        first
          | (intro h; exact absurd h (by decide))
          | (intro _; exact q2 (by first | omega | exact .inr (.inr (.inr ⟨ho, s3 h4.1, t3 h4.2⟩))))
theorem typedS_at (wide : Int) (hw : 1 ≤ wide ∧ wide ≤ 64) (s : List DSpan) (hs : ∀ v ∈ s, Fits (top wide) v) (t : List DNode) (hx : ∀ x ∈ t, U64 x.2) {r : List Int} (h : kfold wide (s.length : Int) t [] = some r) :
    ∀ i, i ≤ t.length → ∃ ks, kfold wide (s.length : Int) (t.drop i) ks = some r ∧ TypedS wide ks (stackAt (sop wide s) t i) := by
  intro i
  induction i with
  | zero => exact fun _ => ⟨[], h, .nil⟩
  | succ i ih =>
    intro hi
    obtain ⟨ks, h1, h2⟩ := ih (by omega)
    rw [List.drop_eq_getElem_cons (by omega)] at h1
    simp only [kfold, Option.bind_eq_some_iff] at h1
    obtain ⟨ks', h3, h4⟩ := h1
    exact ⟨ks', h4, by rw [stackAt_succ _ _ _ (by omega)]; exact typedS_step wide hw s hs _ (hx _ (List.getElem_mem _)) h3 h2⟩
theorem typedS_op (wide : Int) (hw : 1 ≤ wide ∧ wide ≤ 64) (s : List DSpan) (hs : ∀ v ∈ s, Fits (top wide) v) (t : List DNode) (hx : ∀ x ∈ t, U64 x.2) {r : List Int} (h : kfold wide (s.length : Int) t [] = some r) (i : Nat) (hi : i < t.length) :
    leafOk wide (s.length : Int) t[i].1 t[i].2 = true ∧
    (((t[i].1 = 1 ∨ t[i].1 = 2 ∨ t[i].1 = 20) ∧ need t[i].1 = (0, (need t[i].1).2)) ∨
     ((t[i].1 = 13 ∨ t[i].1 = 19) ∧ need t[i].1 = (1, (need t[i].1).2) ∧ ∃ st b, stackAt (sop wide s) t i = st ++ [b] ∧ Fits (top wide) b ∧ (t[i].1 = 19 → b.2 ≤ 1)) ∨
     (((3 ≤ t[i].1 ∧ t[i].1 ≤ 12) ∨ (14 ≤ t[i].1 ∧ t[i].1 ≤ 18)) ∧ need t[i].1 = (2, (need t[i].1).2) ∧ ∃ st a b, stackAt (sop wide s) t i = st ++ [a, b] ∧ Fits (top wide) a ∧ Fits (top wide) b)) := by
  obtain ⟨ks, h1, h2⟩ := typedS_at wide hw s hs t hx h i (by omega)
  rw [List.drop_eq_getElem_cons hi] at h1
  simp only [kfold, Option.bind_eq_some_iff] at h1
  obtain ⟨ks', h3, _⟩ := h1
  obtain ⟨g1, g2, g3, g4, _⟩ := kstep_some h3
  refine ⟨g2, ?_⟩
  obtain ⟨m, p, o, hn⟩ : ∃ m p o, need t[i].1 = (m, p, o) := ⟨_, _, _, rfl⟩
  generalize stackAt (sop wide s) t i = st at h2 ⊢
  simp only [hn] at g1 g3 g4 ⊢
  rcases need_op hn g1 with ⟨rfl, rfl, ho⟩ | ⟨rfl, rfl, ho⟩ | ⟨rfl, rfl, rfl, ho⟩ | ⟨rfl, rfl, rfl, ho⟩ | ⟨rfl, rfl, rfl, ho⟩ | ⟨rfl, rfl, rfl, ho⟩ | ⟨rfl, rfl, rfl, ho⟩
  · exact .inl ⟨by omega, rfl⟩
  · exact .inl ⟨by omega, rfl⟩
  · rcases h2.invS with ⟨rfl, rfl⟩ | ⟨ks, st, k, v, rfl, rfl, t1, t2, t3⟩
    · simp at g3
    · exact .inr (.inl ⟨.inl ho, rfl, st, v, rfl, t2, fun h => by omega⟩)
  · rcases h2.invS with ⟨rfl, rfl⟩ | ⟨ks, st, k, v, rfl, rfl, t1, t2, t3⟩
    · simp at g3
    · have e1 : (ks ++ [k]).length - (1 : Int).toNat = ks.length := by simp
      rw [e1, List.drop_left' rfl] at g4
      exact .inr (.inl ⟨.inr ho, rfl, st, v, rfl, t2, fun _ => t3 (by simpa using g4)⟩)
  all_goals
    rcases h2.invS with ⟨rfl, rfl⟩ | ⟨ks, st, k, v, rfl, rfl, t1, t2, t3⟩
    · simp at g3
    · rcases t1.invS with ⟨rfl, rfl⟩ | ⟨ks, st, k', v', rfl, rfl, s1, s2, s3⟩
      · simp at g3
      · exact .inr (.inr ⟨by omega, rfl, st, v', v, by simp, s2, t2⟩)
theorem spanOf_L0 (wide : Int) (hw : 1 ≤ wide ∧ wide ≤ 64) (s : Bool × List DSpan) (hl : s.2.length ≤ 1000) (hs : ∀ v ∈ s.2, Fits (top wide) v) (t : Bool × List DNode) (ht : t.2.length ≤ 1000) (hx : WfN t.2) {r : List Int} (h : kfold wide (s.2.length : Int) t.2 [] = some r) (d : Nat) :
    ∀ (i : Nat) (b : Bool), i + d = t.2.length → (stackAt (sop wide s.2) t.2 i).length ≤ i →
    ∃ b', impl_spanOf_L0 s (0, 0) (0, top wide) (b, stackAt (sop wide s.2) t.2 i) t (t.2.length : Int) (i : Int) = some (b', stackAt (sop wide s.2) t.2 t.2.length) := by
  have he := top_in (wide := wide) (by omega)
  have hlim := lim_eq
  induction d with
  | zero =>
    intro i b hi hst
    obtain rfl : i = t.2.length := by omega
    rw [impl_spanOf_L0_eq, gF (by omega)]
    exact ⟨b, rfl⟩
  | succ d ih =>
    intro i b0 hi hst
    have hlt : i < t.2.length := by omega
    have hu := hx _ (List.getElem_mem hlt)
    have go := fun b => ih (i + 1) b (by omega)
    obtain ⟨hlf, hop⟩ := typedS_op wide hw s.2 hs t.2 hx h i hlt
    have es := stackAt_succ (sop wide s.2) t.2 i hlt
    rw [impl_spanOf_L0_eq, gT (by omega), gT (by omega), gT (by omega), getD_at t.2 _ i hlt]
    simp only [up1 i (by omega)]
    unfold leafOk at hlf
    generalize hS : stackAt (sop wide s.2) t.2 i = st at *
    rcases hop with ⟨ho, hn⟩ | ⟨ho, hn, st, b, rfl, fb, hb⟩ | ⟨ho, hn, st, a, b, rfl, fa, fb⟩
    · have e1 := sstep_of (sop wide s.2) st [] t.2[i] 0 hn rfl
      rw [List.append_nil] at e1
      rw [es, e1] at go
      obtain ⟨b', g⟩ := go (b0 && false) (by simp; omega)
      refine ⟨b', ?_⟩
      rcases ho with ho | ho | ho
      · have e2 : sop wide s.2 t.2[i] [] = (t.2[i].2, t.2[i].2) := by simp [sop, ho]
        rw [e2] at g
        rw [ho, bT (by rfl), bT (by rfl), gT (by simp; omega), g]
        rfl
      · have e2 : sop wide s.2 t.2[i] [] = s.2.getD t.2[i].2.toNat (0, 0) := by simp [sop, ho]
        rw [e2] at g
        rw [if_neg (by omega), if_pos ho, decide_eq_true_eq] at hlf
        have hu0 := hu.1
        rw [ho, bF (by rfl), bF (by rfl), bT (by rfl), gT hu0, gT hlf, gT (by simp; omega), g]
        rfl
      · have e2 : sop wide s.2 t.2[i] [] = (t.2[i].2, t.2[i].2) := by simp [sop, ho]
        rw [e2] at g
        rw [ho, bF (by rfl), bT (by rfl), gT (by simp; omega), g]
        rfl
    · have e1 := sstep_of (sop wide s.2) st [b] t.2[i] 1 hn rfl
      rw [es, e1] at go
      obtain ⟨b', g⟩ := go b0 (by simp; simp at hst; omega)
      refine ⟨b', ?_⟩
      have hlen1 : (st ++ [b]).length = st.length + 1 := by simp
      have e3 : IntKind.i64.wrap (((st ++ [b]).length : Int) - 1) = (st.length : Int) := by
        rw [hlen1, wr (by omega)]
        omega
      have e4 : (st ++ [b]).getD (Int.toNat (st.length : Int)) (0, 0) = b := by simp
      have e5 : ∀ v : DSpan, (st ++ [b]).set (Int.toNat (st.length : Int)) v = st ++ [v] := fun v => by simp
      have e6 : (st.length : Int) < ((st ++ [b]).length : Int) := by omega
      have fb' := fb
      obtain ⟨f1, f2, f3⟩ := fb
      rw [e3, e4]
      rcases ho with ho | ho
      · have e2 : sop wide s.2 t.2[i] [b] = (top wide - b.2, top wide - b.1) := by simp [sop, ho]
        rw [e2] at g
        rw [ho, bF (by rfl), bF (by rfl), bF (by rfl), bT (by rfl), gT (by omega), gT e6, gT (by omega), gT e6, gT (by omega), gT e6, e5, u64_of (by omega) (by omega), u64_of (by omega) (by omega), g]
        rfl
      · have e2 : sop wide s.2 t.2[i] [b] = (1 - b.2, 1 - b.1) := by simp [sop, ho]
        rw [e2] at g
        have hb1 := hb ho
        rw [ho, bF (by rfl), bF (by rfl), bF (by rfl), bF (by rfl), bT (by rfl), gT (by omega), gT e6, gT (by omega), gT e6, gT (by omega), gT e6, e5, u64_of (by omega) (by omega), u64_of (by omega) (by omega), g]
        rfl
    · have e1 := sstep_of (sop wide s.2) st [a, b] t.2[i] 2 hn rfl
      rw [es, e1] at go
      obtain ⟨b', g⟩ := go (b0 && false) (by simp; simp at hst; omega)
      refine ⟨b', ?_⟩
      have hlen : (st ++ [a, b]).length = st.length + 2 := by simp
      have e3 : IntKind.i64.wrap (((st ++ [a, b]).length : Int) - 1) = ((st.length + 1 : Nat) : Int) := by rw [hlen, wr (by omega)]; omega
      have e3' : IntKind.i64.wrap (((st.length + 1 : Nat) : Int) - 1) = (st.length : Int) := by rw [wr (by omega)]; omega
      have e4 : (st ++ [a, b]).getD (Int.toNat ((st.length + 1 : Nat) : Int)) (0, 0) = b := by simp [List.getD_eq_getElem?_getD]
      have e4' : (st ++ [a, b]).getD (Int.toNat (st.length : Int)) (0, 0) = a := by simp [List.getD_eq_getElem?_getD]
      have e2 : sop wide s.2 t.2[i] [a, b] = two (top wide) t.2[i].1 a b := rfl
      have e7 : ((st ++ [a, b]).take (Int.toNat (st.length : Int))).drop 0 = st := by simp
      rw [e2] at g
      rw [e3, e3', e4, e4', e7, hlen, bF (beqF (by omega)), bF (beqF (by omega)), bF (beqF (by omega)), bF (beqF (by omega)), bF (beqF (by omega)), gT (by omega), gT (by omega), gT (by omega), gT (by omega), gT (by omega), gT (by omega), spanOfTwo (top wide) t.2[i].1 a b he fa fb ho, some_bind, gT (by simp; omega), g]
      rfl
theorem l18Of (wide : Int) (hw : 1 ≤ wide ∧ wide ≤ 64) (s : Bool × List DSpan) (hl : s.2.length ≤ 1000) (hs : ∀ v ∈ s.2, Fits (top wide) v) (t : Bool × List DNode) (ht : t.2.length ≤ 48) (hx : WfN t.2) {r : List Int} (h : kfold wide (s.2.length : Int) t.2 [] = some r) :
    ∀ (n i : Nat), i ≤ n → i < t.2.length → ∃ st v, stackAt (sop wide s.2) t.2 (i + 1) = st ++ [v] ∧ spec_l18Of wide t (i : Int) s = some v := by
  have hen : Enough (sop wide s.2) t.2 := by
    intro i hi
    obtain ⟨_, hop⟩ := typedS_op wide hw s.2 hs t.2 hx h i hi
    rcases hop with ⟨ho, hn⟩ | ⟨ho, hn, st, b, e, fb, hb⟩ | ⟨ho, hn, st, a, b, e, fa, fb⟩
    · rw [hn]
      simp
    · rw [hn, e]
      simp
    · rw [hn, e]
      simp
  have he := top_in (wide := wide) (by omega)
  intro n
  induction n using Nat.strongRecOn with
  | _ n ih =>
    intro i hi hlt
    have hu := hx _ (List.getElem_mem hlt)
    obtain ⟨hlf, hop⟩ := typedS_op wide hw s.2 hs t.2 hx h i hlt
    rw [stackAt_succ _ _ _ hlt, spec_l18Of_eq, gT (by omega), gT (by omega), getD_at t.2 _ i hlt, l2Need, some_bind]
    have hpos : ∀ {x : List DSpan}, 0 < x.length → stackAt (sop wide s.2) t.2 i = x → 0 < i := by
      intro x hl e
      rcases Nat.eq_zero_or_pos i with rfl | h0
      · rw [stackAt_zero] at e
        subst e
        simp at hl
      · exact h0
    rcases hop with ⟨ho, hn⟩ | ⟨ho, hn, st, b, e, fb, hb⟩ | ⟨ho, hn, st, a, b, e, fa, fb⟩
    · refine ⟨stackAt (sop wide s.2) t.2 i, sop wide s.2 t.2[i] [], ?_, ?_⟩
      · have := sstep_of (sop wide s.2) (stackAt (sop wide s.2) t.2 i) [] t.2[i] 0 hn rfl
        rwa [List.append_nil] at this
      · have h20 : (need t.2[i].1).1 = 0 := by rw [hn]
        unfold leafOk at hlf
        by_cases h2 : t.2[i].1 = 2
        · rw [if_neg (by omega), if_pos h2, decide_eq_true_eq] at hlf
          have hu0 := hu.1
          rw [bT (by simpa using h2), gT hu0, gT hlf]
          simp only [sop, if_pos h2]
        · rw [bF (beqF h2), h20, bT (by rfl)]
          simp only [sop, if_neg h2]
    · have h0 := hpos (by simp) e
      obtain ⟨st', v, g1, g2⟩ := ih (i - 1) (by omega) (i - 1) (by omega) (by omega)
      rw [show i - 1 + 1 = i by omega, e] at g1
      have q0 : st = st' ∧ [b] = [v] := List.append_inj' g1 rfl
      have q0' : v = b := by have := q0.2; simp at this; exact this.symm
      subst q0'
      refine ⟨st, sop wide s.2 t.2[i] [v], ?_, ?_⟩
      · rw [e]
        exact sstep_of (sop wide s.2) st [v] t.2[i] 1 hn rfl
      · have h20 : (need t.2[i].1).1 = 1 := by rw [hn]
        rw [bF (beqF (by omega)), h20, bF (by rfl), dn1 i (by omega) h0, g2]
        obtain ⟨f1, f2, f3⟩ := fb
        obtain ⟨q1, q2⟩ := cut_not (wide := wide) (by omega) (show 0 ≤ v.2 by omega) (by omega)
        obtain ⟨q3, q4⟩ := cut_not (wide := wide) (by omega) f1 (by omega)
        rw [some_bind]
        rcases ho with ho | ho
        · rw [ho, bT (by rfl), cut_mod (by omega) q1, some_bind, q2, cut_mod (by omega) q3, some_bind, q4]
          simp only [sop, ho, if_true]
        · have hb1 := hb ho
          rw [ho, bF (by rfl), bT (by rfl), u64_of (by omega) (by omega), u64_of (by omega) (by omega)]
          simp only [sop, ho]
          rfl
    · have h0 := hpos (by simp) e
      obtain ⟨j, hj, q2, v2, q3⟩ := l2From (sop wide s.2) t ht hen (i - 1) (i - 1) (by omega) (by omega)
      rw [show i - 1 + 1 = i by omega, e] at q3
      have q4 : st ++ [a] = stackAt (sop wide s.2) t.2 j ∧ [b] = [v2] := List.append_inj' (by rw [← q3]; simp) rfl
      obtain ⟨q5, q6⟩ := q4
      have hj0 : 0 < j := by
        rcases Nat.eq_zero_or_pos j with rfl | hj0
        · rw [stackAt_zero] at q5
          simp at q5
        · exact hj0
      obtain ⟨st1, v1, g1, g2⟩ := ih (j - 1) (by omega) (j - 1) (by omega) (by omega)
      rw [show j - 1 + 1 = j by omega, ← q5] at g1
      obtain ⟨st3, v3, g3, g4⟩ := ih (i - 1) (by omega) (i - 1) (by omega) (by omega)
      rw [show i - 1 + 1 = i by omega, e] at g3
      have r1 : st = st1 ∧ [a] = [v1] := List.append_inj' g1 rfl
      have r3 : st ++ [a] = st3 ∧ [b] = [v3] := List.append_inj' (by rw [← g3]; simp) rfl
      have r1' : v1 = a := by have := r1.2; simp at this; exact this.symm
      have r3' : v3 = b := by have := r3.2; simp at this; exact this.symm
      subst r1' r3'
      refine ⟨st, sop wide s.2 t.2[i] [v1, v3], ?_, ?_⟩
      · rw [e]
        exact sstep_of (sop wide s.2) st [v1, v3] t.2[i] 2 hn rfl
      · have h20 : (need t.2[i].1).1 = 2 := by rw [hn]
        rw [bF (beqF (by omega)), h20, bF (by rfl), dn1 i (by omega) h0, g4, some_bind, bF (beqF (by omega)), bF (beqF (by omega)), q2, some_bind, dn1 j (by omega) hj0, g2, some_bind]
        rcases ho with ho | ho
        · have hown : (need t.2[i].1).2.2 = 1 := by
            unfold need
            rw [if_neg (by omega), if_neg (by omega), if_neg (by omega), if_neg (by omega), if_pos ho]
          rw [hown, bT (by rfl), l18Num hw v1 v3 ho fa fb, some_bind]
          rfl
        · have hown : (need t.2[i].1).2.2 = 2 := by
            unfold need
            rw [if_neg (by omega), if_neg (by omega), if_neg (by omega), if_neg (by omega), if_neg (by omega)]
            split
            · rfl
            · rw [if_pos (by omega)]
          rw [hown, bF (by rfl), l18Ask (top wide) _ v1 v3 ho, some_bind]
          rfl
/-- the value of a term in a state -/
def spanT (wide : Int) (s : List DSpan) (t : List DNode) : DSpan := (stackAt (sop wide s) t t.length).getD 0 (0, 0)
/-- The value of a good term in a good state: the reference's and the program's are one; of a condition it is 0 or 1. -/
theorem span_both (wide : Int) (hw : 1 ≤ wide ∧ wide ≤ 64) (s : Bool × List DSpan) (hl : s.2.length ≤ 1000) (hs : ∀ v ∈ s.2, Fits (top wide) v) (t : Bool × List DNode) (hx : WfN t.2) (hk : kindT wide (s.2.length : Int) t.2 ≠ 0) :
    Fits (top wide) (spanT wide s.2 t.2) ∧ (kindT wide (s.2.length : Int) t.2 = 2 → (spanT wide s.2 t.2).2 ≤ 1) ∧ spec_l18Of wide t (IntKind.i64.wrap ((t.2.length : Int) - 1)) s = some (spanT wide s.2 t.2) ∧ impl_spanOf wide t s = some (spanT wide s.2 t.2) := by
  obtain ⟨_, _, _, _, hl1, hl2⟩ := kindT_in hk
  have hne : t.2 ≠ [] := by intro h; rw [h] at hl1; simp at hl1
  obtain ⟨hf, _⟩ := kindT_last hk hne
  obtain ⟨ks, h3, h4⟩ := typedS_at wide hw s.2 hs t.2 hx hf t.2.length (Nat.le_refl _)
  rw [List.drop_length] at h3
  simp only [kfold, Option.some.injEq] at h3
  subst h3
  obtain ⟨st, v, h1, h2⟩ := l18Of wide hw s hl hs t hl2 hx hf t.2.length (t.2.length - 1) (by omega) (by omega)
  rw [show t.2.length - 1 + 1 = t.2.length by omega] at h1
  have h5 := h4.invS
  rw [h1] at h5
  rcases h5 with ⟨h5, _⟩ | ⟨ks', st', k', v', e1, e2, h6, h7, h8⟩
  · simp at h5
  · have hk0 : [] = ks' ∧ [kindT wide (s.2.length : Int) t.2] = [k'] := List.append_inj' (s₁ := []) e1 rfl
    have hv0 : st = st' ∧ [v] = [v'] := List.append_inj' e2 rfl
    obtain ⟨rfl, e3⟩ := hk0
    obtain ⟨rfl, e4⟩ := hv0
    simp only [List.cons.injEq, and_true] at e3 e4
    subst e3 e4
    have hlen := h6.lenS
    have hst : st = [] := List.eq_nil_of_length_eq_zero (by simpa using hlen.symm)
    subst hst
    have hval : spanT wide s.2 t.2 = v := by unfold spanT; rw [h1]; rfl
    rw [hval]
    refine ⟨h7, h8, ?_, ?_⟩
    · rw [dn1 t.2.length (by omega) (by omega), h2]
    · obtain ⟨b', g⟩ := spanOf_L0 wide hw s hl hs t (by omega) hx hf t.2.length 0 false (by omega) (by simp [stackAt_zero])
      rw [stackAt_zero, h1] at g
      rw [impl_spanOf_eq, mask_top wide (by omega), some_bind]
      have g' : impl_spanOf_L0 s (0, 0) (0, top wide) (false, []) t (t.2.length : Int) 0 = some (b', [] ++ [v]) := g
      rw [g', some_bind, gT (by simp)]
      rfl
def goodSpan (wide : Int) (s : DSpan) : Bool := goodWord wide s.2 && decide (s.1 ≤ s.2)
def WfS (l : List DSpan) : Prop := ∀ s ∈ l, U64 s.1 ∧ U64 s.2
theorem goodSpan_iff {wide : Int} {s : DSpan} (h : U64 s.1) : goodSpan wide s = true ↔ 1 ≤ wide ∧ wide ≤ 64 ∧ Fits (top wide) s := by
  rw [goodSpan, Bool.and_eq_true, goodWord_iff, decide_eq_true_eq, Fits]
  have := h.1
  omega
theorem spec_goodSpan (wide : Int) (s : DSpan) (h : U64 s.1 ∧ U64 s.2) : spec_GoodSpan wide s = some (goodSpan wide s) := by
  rw [spec_GoodSpan_eq, spec_l1Both_eq, spec_goodWord wide _ h.1, spec_goodWord wide _ h.2, some_bind, some_bind, goodSpan]
  cases h1 : goodWord wide s.1 with
  | true => cases h2 : goodWord wide s.2 <;> rfl
  | false =>
    cases h2 : goodWord wide s.2 with
    | false => rfl
    | true =>
      rw [goodWord_iff] at h2
      have : ¬ (1 ≤ wide ∧ wide ≤ 64 ∧ s.1 ≤ top wide) := by rw [← goodWord_iff, h1]; simp
      rw [decide_eq_false (by omega)]
      rfl
theorem impl_goodSpan (wide : Int) (s : DSpan) : impl_GoodSpan wide s = some (goodSpan wide s) := by
  rw [impl_GoodSpan_eq, impl_goodWord, some_bind, goodSpan]
  cases goodWord wide s.2 <;> rfl
/-- Are there good spans for a good program's variables? -/
def spansFor (p : DProgram) (l : List DSpan) : Bool := goodProgram p && (decide ((l.length : Int) = p.2.1) && l.all (goodSpan p.1))
theorem l18For (p : DProgram) (hs : SmProgram p) (hw : WfP p) (l : Bool × List DSpan) (hl : l.2.length ≤ 1048576) (hx : WfS l.2) : spec_l18For p l = some (spansFor p l.2) := by
  rw [spec_l18For_eq, spec_goodProgram p hs hw, some_bind, spansFor]
  cases h0 : goodProgram p with
  | false => rfl
  | true =>
    obtain ⟨_, _, h3, h4⟩ := goodProgram_in h0
    rw [cond_true, Bool.true_and]
    by_cases c1 : (l.2.length : Int) = p.2.1
    · rw [bT (by simpa using c1), decide_eq_true c1, Bool.true_and, spec_l18Spans_eq, l1In_eq, some_bind, decide_eq_true (by omega), Bool.not_true, cond_false, all_loop l.2 (goodSpan p.1) (fun i => spec_l18Spans_L0 p.1 l (l.2.length : Int) i) (fun i h => by
        rw [spec_l18Spans_L0_eq, gT (by omega), gT (by omega), gT (by omega), getD_at l.2 _ i h, spec_goodSpan _ _ (hx _ (List.getElem_mem h)), some_bind, up1 i (by omega), bind_id]) (by rw [spec_l18Spans_L0_eq, gF (by omega)]), some_bind, bind_id]
      cases l.2.all (goodSpan p.1) <;> rfl
    · rw [bF (beqF c1), decide_eq_false c1, Bool.false_and]
theorem contains_span (wide : Int) (l : Bool × List DSpan) (hl : l.2.length ≤ 1048576) : slices_ContainsFunc_Span_by_areSpans_1 l (wide, ()) = some (l.2.any fun s => !goodSpan wide s) := by
  have h := loop_find l.2 (fun s => !goodSpan wide s) (fun i => slices_IndexFunc_Span_by_areSpans_1_L0 l (wide, ()) (l.2.length : Int) i) (fun i h => by
    rw [slices_IndexFunc_Span_by_areSpans_1_L0_eq, gT (by omega), gT (by omega), gT (by omega), getD_at l.2 _ i h, impl_areSpans_1_eq, impl_goodSpan, some_bind, some_bind, up1 i (by omega), bind_id]) (by rw [slices_IndexFunc_Span_by_areSpans_1_L0_eq, gF (by omega)])
  rw [slices_ContainsFunc_Span_by_areSpans_1_eq, slices_IndexFunc_Span_by_areSpans_1_eq]
  exact contains_of h
theorem areSpansOf (p : DProgram) (hs : SmProgram p) (l : Bool × List DSpan) (hl : l.2.length ≤ 1048576) : impl_areSpansOf p l = some (spansFor p l.2) := by
  rw [impl_areSpansOf_eq, impl_goodProgram p hs, some_bind, spansFor]
  cases h0 : goodProgram p with
  | false => rfl
  | true =>
    obtain ⟨_, _, h3, h4⟩ := goodProgram_in h0
    rw [cond_true, Bool.true_and]
    by_cases c1 : (l.2.length : Int) = p.2.1
    · rw [bT (by simpa using c1), decide_eq_true c1, Bool.true_and, impl_areSpans_eq, isVars_eq, some_bind, decide_eq_true (by omega), cond_true, contains_span p.1 l hl, some_bind, some_bind, List.all_eq_not_any_not]
    · rw [bF (beqF c1), decide_eq_false c1, Bool.false_and]
/-- what is known of good spans -/
theorem spansFor_in {p : DProgram} {l : List DSpan} (hx : WfS l) (h : spansFor p l = true) : goodProgram p = true ∧ (l.length : Int) = p.2.1 ∧ ∀ s ∈ l, Fits (top p.1) s := by
  simp only [spansFor, Bool.and_eq_true, decide_eq_true_eq] at h
  exact ⟨h.1, h.2.1, fun s hs => ((goodSpan_iff (hx s hs).1).1 ((List.all_eq_true.1 h.2.2) s hs)).2.2⟩
def joinS (a b : DSpan) : DSpan := (min a.1 b.1, max a.2 b.2)
def roundC (p : DProgram) (spans : List DSpan) (out : List DSpan) (cs : List DChange) : List DSpan := cs.foldl (fun o d => o.set d.1.toNat (joinS (o.getD d.1.toNat (0, 0)) (spanT p.1 spans d.2.2))) out
/-- one round of spans -/
def roundS (p : DProgram) (spans : List DSpan) : List DSpan := p.2.2.2.2.foldl (fun o c => if (spanT p.1 spans c.1.2).2 = 0 then o else roundC p spans o c.2.2) spans
theorem roundC_length (p : DProgram) (spans : List DSpan) (cs : List DChange) : ∀ out, (roundC p spans out cs).length = out.length := by
  induction cs with
  | nil => intro out; rfl
  | cons c cs ih => intro out; show (roundC p spans _ cs).length = _; rw [ih, List.length_set]
structure Spn (p : DProgram) (l : List DSpan) : Prop where
  good : goodProgram p = true
  sm : SmProgram p
  wf : WfP p
  len : (l.length : Int) = p.2.1
  fit : ∀ s ∈ l, Fits (top p.1) s
theorem Spn.wideS {p : DProgram} {l : List DSpan} (h : Spn p l) : 1 ≤ p.1 ∧ p.1 ≤ 64 ∧ 1 ≤ p.2.1 ∧ p.2.1 ≤ 4 := goodProgram_in h.good
theorem Spn.bothS {p : DProgram} {l : List DSpan} (h : Spn p l) (b : Bool) (t : Bool × List DNode) (hx : WfN t.2) (hk : kindT p.1 p.2.1 t.2 ≠ 0) :
    Fits (top p.1) (spanT p.1 l t.2) ∧ spec_l18Of p.1 t (IntKind.i64.wrap ((t.2.length : Int) - 1)) (b, l) = some (spanT p.1 l t.2) ∧ impl_spanOf p.1 t (b, l) = some (spanT p.1 l t.2) := by
  have hw := h.wideS
  obtain ⟨h1, _, h2, h3⟩ := span_both p.1 ⟨hw.1, hw.2.1⟩ (b, l) (by have := h.len; simp only; omega) h.fit t hx (by rw [show (((b, l) : Bool × List DSpan).2.length : Int) = p.2.1 from h.len]; exact hk)
  exact ⟨h1, h2, h3⟩
theorem join_both (a b : DSpan) : spec_l18Join a b = some (joinS a b) ∧ impl_join a b = some (joinS a b) := by
  constructor
  · rw [spec_l18Join_eq, l18Least, some_bind, l18Most, some_bind]; rfl
  · rw [impl_join_eq, bif_min, bif_max]; rfl
theorem joinS_fits {e : Int} {a b : DSpan} (ha : Fits e a) (hb : Fits e b) : Fits e (joinS a b) := by
  obtain ⟨h1, h2, h3⟩ := ha
  obtain ⟨h4, h5, h6⟩ := hb
  exact ⟨by simp only [joinS]; omega, by simp only [joinS]; omega, by simp only [joinS]; omega⟩
theorem round_L2 {p : DProgram} {l : List DSpan} (h : Spn p l) (f b : Bool) (cs : Bool × List DChange) (hl : cs.2.length ≤ 1048576) (hw : ∀ d ∈ cs.2, WfCh d) (hc : ∀ d ∈ cs.2, 0 ≤ d.1 ∧ d.1 < p.2.1 ∧ kindT p.1 p.2.1 d.2.2 = 1) (t1 : Bool × List DCommand) (i1 i2 : Int) (out : List DSpan) (ho : (out.length : Int) = p.2.1) :
    spec_l18Round_L2 (f, l) p (b, out) t1 i1 i2 cs (cs.2.length : Int) 0 = some (b, roundC p l out cs.2) ∧ impl_spanRound_L2 (f, l) p (b, out) t1 i1 i2 cs (cs.2.length : Int) 0 = some (b, roundC p l out cs.2) := by
  constructor
  · exact loop_fold cs.2 (fun o d => o.set d.1.toNat (joinS (o.getD d.1.toNat (0, 0)) (spanT p.1 l d.2.2))) (fun o => (b, o)) (fun o i => spec_l18Round_L2 (f, l) p (b, o) t1 i1 i2 cs (cs.2.length : Int) i) (fun _ o => (o.length : Int) = p.2.1) (fun i hi o hlen => by
      have hm := List.getElem_mem hi
      obtain ⟨c1, c2, c3⟩ := hc _ hm
      obtain ⟨_, q, _⟩ := h.bothS f cs.2[i].2 (hw _ hm) (by rw [c3]; decide)
      refine ⟨?_, by rw [List.length_set]; exact hlen⟩
      rw [spec_l18Round_L2_eq, gT (by omega), gT (by omega), gT (by omega), getD_at cs.2 _ i hi, gT c1, gT (by simp only; omega), q, some_bind, (join_both _ _).1, some_bind, gT c1, gT (by simp only; omega), up1 i (by omega), bind_id]) (fun o _ => by rw [spec_l18Round_L2_eq, gF (by omega)]) out ho
  · exact loop_fold cs.2 (fun o d => o.set d.1.toNat (joinS (o.getD d.1.toNat (0, 0)) (spanT p.1 l d.2.2))) (fun o => (b, o)) (fun o i => impl_spanRound_L2 (f, l) p (b, o) t1 i1 i2 cs (cs.2.length : Int) i) (fun _ o => (o.length : Int) = p.2.1) (fun i hi o hlen => by
      have hm := List.getElem_mem hi
      obtain ⟨c1, c2, c3⟩ := hc _ hm
      obtain ⟨_, _, q⟩ := h.bothS f cs.2[i].2 (hw _ hm) (by rw [c3]; decide)
      refine ⟨?_, by rw [List.length_set]; exact hlen⟩
      rw [impl_spanRound_L2_eq, gT (by omega), gT (by omega), gT (by omega), getD_at cs.2 _ i hi, gT c1, gT (by simp only; omega), q, some_bind, (join_both _ _).2, some_bind, gT c1, gT (by simp only; omega), up1 i (by omega), bind_id]) (fun o _ => by rw [impl_spanRound_L2_eq, gF (by omega)]) out ho
theorem round_both {p : DProgram} {l : List DSpan} (h : Spn p l) : (∀ f, spec_l18Round p (f, l) = some (false, roundS p l)) ∧ impl_spanRound p (false, l) = some (false, roundS p l) := by
  have hlim := lim_eq
  have hw := h.wideS
  have hlen := h.len
  have hcm := cmd_in h.good
  have hl2 := h.sm.2.1
  constructor
  · intro f
    have := loop_fold p.2.2.2.2 (fun o c => if (spanT p.1 l c.1.2).2 = 0 then o else roundC p l o c.2.2) (fun o => (false, o)) (fun o i => spec_l18Round_L0 (f, l) p (false, o) p.2.2.2 (p.2.2.2.2.length : Int) i) (fun _ o => (o.length : Int) = p.2.1) (fun i hi o ho => by
      have hm := List.getElem_mem hi
      obtain ⟨c1, c2⟩ := hcm _ hm
      obtain ⟨_, q, _⟩ := h.bothS f p.2.2.2.2[i].1 (h.wf.2 _ hm).1 (by rw [c1]; decide)
      rw [spec_l18Round_L0_eq, gT (by omega), gT (by omega), gT (by omega), getD_at _ _ i hi, q, some_bind, up1 i (by omega)]
      by_cases c3 : (spanT p.1 l p.2.2.2.2[i].1.2).2 = 0
      · rw [bT (by rw [beq_iff_eq]; exact c3), if_pos c3, bind_id]
        exact ⟨rfl, ho⟩
      · rw [bF (beqF c3), if_neg c3, (round_L2 h f false p.2.2.2.2[i].2 (h.sm.2.2 _ hm).2.1 (h.wf.2 _ hm).2 c2 _ _ _ o ho).1, some_bind, bind_id]
        exact ⟨rfl, by rw [roundC_length]; exact ho⟩) (fun o _ => by rw [spec_l18Round_L0_eq, gF (by omega)]) l hlen
    rw [spec_l18Round_eq, gT (by simp; omega), List.nil_append, this, some_bind]
    rfl
  · have := loop_fold p.2.2.2.2 (fun o c => if (spanT p.1 l c.1.2).2 = 0 then o else roundC p l o c.2.2) (fun o => (false, o)) (fun o i => impl_spanRound_L0 (false, l) p (false, o) p.2.2.2 (p.2.2.2.2.length : Int) i) (fun _ o => (o.length : Int) = p.2.1) (fun i hi o ho => by
      have hm := List.getElem_mem hi
      obtain ⟨c1, c2⟩ := hcm _ hm
      obtain ⟨hf, _, q⟩ := h.bothS false p.2.2.2.2[i].1 (h.wf.2 _ hm).1 (by rw [c1]; decide)
      have hf0 := hf.1
      have hf1 := hf.2.1
      rw [impl_spanRound_L0_eq, gT (by omega), gT (by omega), gT (by omega), getD_at _ _ i hi, q, some_bind, up1 i (by omega)]
      by_cases c3 : (spanT p.1 l p.2.2.2.2[i].1.2).2 = 0
      · rw [bT (by rw [Bool.and_eq_true, beq_iff_eq, beq_iff_eq]; omega), if_pos c3, bind_id]
        exact ⟨rfl, ho⟩
      · rw [bF (by rw [beqF c3, Bool.and_false]), if_neg c3, (round_L2 h false false p.2.2.2.2[i].2 (h.sm.2.2 _ hm).2.1 (h.wf.2 _ hm).2 c2 _ _ _ o ho).2, some_bind, bind_id]
        exact ⟨rfl, by rw [roundC_length]; exact ho⟩) (fun o _ => by rw [impl_spanRound_L0_eq, gF (by omega)]) l hlen
    rw [impl_spanRound_eq, slices_Clone_Span_eq, cond_false, gT (by simp; omega), List.nil_append, some_bind, this, some_bind]
    rfl
theorem roundC_fits {p : DProgram} {l : List DSpan} (h : Spn p l) (cs : List DChange) (hw : ∀ d ∈ cs, WfCh d) (hc : ∀ d ∈ cs, kindT p.1 p.2.1 d.2.2 = 1) : ∀ out, (∀ s ∈ out, Fits (top p.1) s) → ∀ s ∈ roundC p l out cs, Fits (top p.1) s := by
  induction cs with
  | nil => intro out ho; exact ho
  | cons c cs ih =>
    intro out ho
    refine ih (fun d hd => hw d (List.mem_cons_of_mem _ hd)) (fun d hd => hc d (List.mem_cons_of_mem _ hd)) _ (fun s hs => ?_)
    rcases List.mem_or_eq_of_mem_set hs with hs | hs
    · exact ho s hs
    · rw [hs]
      have hf := (h.bothS false c.2 (hw c List.mem_cons_self) (by rw [hc c List.mem_cons_self]; decide)).1
      refine joinS_fits ?_ hf
      rw [List.getD_eq_getElem?_getD]
      by_cases hn : c.1.toNat < out.length
      · rw [List.getElem?_eq_getElem hn]
        exact ho _ (List.getElem_mem hn)
      · rw [List.getElem?_eq_none (by omega)]
        have := top_in (wide := p.1) (by have := h.wideS; omega)
        exact ⟨Int.le_refl _, Int.le_refl _, by simp only [Option.getD_none]; omega⟩
theorem Spn.roundS {p : DProgram} {l : List DSpan} (h : Spn p l) : Spn p (roundS p l) := by
  have hcm := cmd_in h.good
  have key : ∀ (cs : List DCommand) (out : List DSpan), (∀ c ∈ cs, c ∈ p.2.2.2.2) → (∀ s ∈ out, Fits (top p.1) s) → (∀ s ∈ cs.foldl (fun o c => if (spanT p.1 l c.1.2).2 = 0 then o else roundC p l o c.2.2) out, Fits (top p.1) s) ∧ (cs.foldl (fun o c => if (spanT p.1 l c.1.2).2 = 0 then o else roundC p l o c.2.2) out).length = out.length := by
    intro cs
    induction cs with
    | nil => intro out _ ho; exact ⟨ho, rfl⟩
    | cons c cs ih =>
      intro out hc ho
      rw [List.foldl_cons]
      have hm := hc c List.mem_cons_self
      by_cases c0 : (spanT p.1 l c.1.2).2 = 0
      · rw [if_pos c0]
        exact ih out (fun d hd => hc d (List.mem_cons_of_mem _ hd)) ho
      · rw [if_neg c0]
        obtain ⟨q1, q2⟩ := ih (roundC p l out c.2.2) (fun d hd => hc d (List.mem_cons_of_mem _ hd)) (roundC_fits h c.2.2 (h.wf.2 c hm).2 (fun d hd => ((hcm c hm).2 d hd).2.2) out ho)
        exact ⟨q1, by rw [q2, roundC_length]⟩
  obtain ⟨q1, q2⟩ := key p.2.2.2.2 l (fun c hc => hc) h.fit
  exact ⟨h.good, h.sm, h.wf, by show ((p.2.2.2.2.foldl _ l).length : Int) = _; rw [q2]; exact h.len, q1⟩
theorem WfD_spans {a : Bool × List DSpan} (w : WfD (.sl tySpan) a) : WfS a.2 := fun s hs => ⟨WfD_u64 (w.2.2 s hs).1, WfD_u64 (w.2.2 s hs).2⟩
theorem Spn_of {p : DProgram} (hs : SmProgram p) (hw : WfP p) {l : List DSpan} (hx : WfS l) (h : spansFor p l = true) : Spn p l := by
  obtain ⟨h1, h2, h3⟩ := spansFor_in hx h
  exact ⟨h1, hs, hw, h2, h3⟩
def settleN (p : DProgram) : Nat → List DSpan → List DSpan
  | 0, l => l
  | n + 1, l => settleN p n (roundS p l)
theorem settle_spec {p : DProgram} (n : Nat) : ∀ l, Spn p l → n ≤ 20 → Spn p (settleN p n l) ∧ spec_SettleSpans_L0 (n : Int) p (false, l) = some (false, settleN p n l) := by
  induction n with
  | zero =>
    intro l h _
    rw [spec_SettleSpans_L0_eq, gF (by omega)]
    exact ⟨h, rfl⟩
  | succ n ih =>
    intro l h hn
    obtain ⟨q1, q2⟩ := ih (roundS p l) h.roundS (by omega)
    refine ⟨q1, ?_⟩
    rw [spec_SettleSpans_L0_eq, gT (by omega), (round_both h).1, some_bind, wr (by omega), show ((n + 1 : Nat) : Int) - 1 = (n : Int) by omega, bind_id, q2]
    rfl
theorem settle_impl {p : DProgram} (n : Nat) (hn : n ≤ 20) (d : Nat) : ∀ (i : Nat) (l : List DSpan), Spn p l → i + d = n → impl_SettleSpans_L0 p (false, l) (n : Int) (i : Int) = some (false, settleN p d l) := by
  induction d with
  | zero =>
    intro i l h hi
    rw [impl_SettleSpans_L0_eq, gF (by omega)]
    rfl
  | succ d ih =>
    intro i l h hi
    rw [impl_SettleSpans_L0_eq, gT (by omega), (round_both h).2, some_bind, up1 i (by omega), bind_id, ih (i + 1) (roundS p l) h.roundS (by omega)]
    rfl
theorem equalSpans (a b : Bool × List DSpan) (ha : a.2.length ≤ 1048576) : slices_Equal_Span a b = some (decide (a.2 = b.2)) := by
  rw [slices_Equal_Span_eq]
  by_cases h : a.2.length = b.2.length
  · rw [bF (by simp [h]), same_loop a.2 b.2 h (fun i => slices_Equal_Span_L0 a b (a.2.length : Int) i) (fun i h1 h2 => by
      rw [slices_Equal_Span_L0_eq, gT (by omega), gT (by omega), gT (by omega), gT (by omega), gT (by omega), getD_at a.2 _ i h1, getD_at b.2 _ i h2, up1 i (by omega), bind_id]
      congr 2
      congr 1
      rw [Bool.eq_iff_iff, Bool.and_eq_true, beq_iff_eq, beq_iff_eq, decide_eq_true_eq]
      exact (Prod.ext_iff).symm) (by rw [slices_Equal_Span_L0_eq, gF (by omega)]), some_bind]
    by_cases h2 : a.2 = b.2
    · simp [h2]
    · simp [h2]
  · rw [bT (by simp; omega), decide_eq_false (fun e => h (by rw [e]))]
theorem still_L2 (o l : Bool × List DSpan) (hl : l.2.length = o.2.length) (hm : l.2.length ≤ 1048576) (d : Nat) : ∀ (i : Nat) (s : Bool), i + d = l.2.length → spec_SettleSpans_L2 o s l (l.2.length : Int) (i : Int) = some (s && decide (l.2.drop i = o.2.drop i)) := by
  induction d with
  | zero =>
    intro i s hi
    rw [spec_SettleSpans_L2_eq, gF (by omega), List.drop_of_length_le (by omega), List.drop_of_length_le (by omega), decide_eq_true rfl, Bool.and_true]
  | succ d ih =>
    intro i s hi
    have h1 : i < l.2.length := by omega
    have h2 : i < o.2.length := by omega
    have e : (((l.2[i]).1 == (o.2[i]).1) && ((l.2[i]).2 == (o.2[i]).2)) = decide (l.2[i] = o.2[i]) := by
      rw [Bool.eq_iff_iff, Bool.and_eq_true, beq_iff_eq, beq_iff_eq, decide_eq_true_eq]
      exact (Prod.ext_iff).symm
    have e2 : decide (l.2.drop i = o.2.drop i) = (decide (l.2[i] = o.2[i]) && decide (l.2.drop (i + 1) = o.2.drop (i + 1))) := by
      rw [List.drop_eq_getElem_cons h1, List.drop_eq_getElem_cons h2, ← Bool.decide_and]
      exact decide_eq_decide.mpr ⟨fun h => List.cons.inj h, fun h => by rw [h.1, h.2]⟩
    rw [spec_SettleSpans_L2_eq, gT (by omega), gT (by omega), gT (by omega), up1 i (by omega), e2]
    cases s with
    | false => rw [cond_false, bind_id, ih (i + 1) false (by omega), Bool.false_and, Bool.false_and]
    | true => rw [cond_true, gT (by omega), gT (by omega), getD_at l.2 _ i h1, getD_at o.2 _ i h2, e, bind_id, ih (i + 1) _ (by omega), Bool.true_and]
theorem settle_law (p : DProgram) (hs : SmProgram p) (hw : WfP p) (l : List DSpan) (hl : l.length ≤ 1048576) (hx : WfS l) (n : Int) :
    ∃ f g a s ok, spec_SettleSpans p (false, l) n = some ((f, a), (s, ok)) ∧ impl_SettleSpans p (false, l) n = some ((g, a), (s, ok)) ∧ a.length ≤ 1048576 := by
  have hlim := lim_eq
  rw [spec_SettleSpans_eq, impl_SettleSpans_eq, l18For p hs hw (false, l) hl hx, areSpansOf p hs (false, l) hl, some_bind, some_bind]
  cases h : spansFor p l with
  | false => exact ⟨true, true, [], false, false, rfl, rfl, by simp⟩
  | true =>
    have hp := Spn_of hs hw hx h
    rw [Bool.not_true, cond_false, cond_false, l1In_eq, some_bind]
    by_cases c1 : n < 0
    · exact ⟨true, true, [], false, false, by rw [decide_eq_false (by omega)]; rfl, by rw [gT c1], by simp⟩
    by_cases c2 : n > 20
    · exact ⟨true, true, [], false, false, by rw [decide_eq_false (by omega)]; rfl, by rw [gF c1, gT c2], by simp⟩
    obtain ⟨m, rfl⟩ := Int.eq_ofNat_of_zero_le (show 0 ≤ n by omega)
    obtain ⟨q1, q2⟩ := settle_spec m l hp (by omega)
    have q3 := settle_impl m (by omega) m 0 l hp (by omega)
    have q3' : impl_SettleSpans_L0 p (false, l) (m : Int) 0 = some (false, settleN p m l) := q3
    obtain ⟨r1, r2⟩ := round_both q1
    have l1 := q1.len
    have l2 := q1.roundS.len
    have := hp.wideS
    have q4 := still_L2 (false, settleN p m l) (false, roundS p (settleN p m l)) (by simp only; omega) (by simp only; omega) _ 0 true (Nat.zero_add _)
    have q4' : spec_SettleSpans_L2 (false, settleN p m l) true (false, roundS p (settleN p m l)) ((roundS p (settleN p m l)).length : Int) 0 = some (true && decide (roundS p (settleN p m l) = settleN p m l)) := by
      have q5 := q4
      simp only [List.drop_zero] at q5
      exact q5
    refine ⟨false, false, settleN p m l, decide (roundS p (settleN p m l) = settleN p m l), true, ?_, ?_, by omega⟩
    · rw [decide_eq_true (by omega), Bool.not_true, cond_false, gT (by simp; omega), List.nil_append, q2, some_bind, r1, some_bind, q4', some_bind, Bool.true_and]
    · rw [gF c1, gF c2, slices_Clone_Span_eq, cond_false, gT (by simp; omega), List.nil_append, some_bind, q3', some_bind, r2, some_bind, equalSpans _ _ (by simp only; omega), some_bind]
theorem pure_FnExactSettleSpans (x0 : DProgram) (x1 : Bool × List DSpan) (x2 : Int) (w0 : WfD tyProgram x0) (w1 : WfD (.sl tySpan) x1) (w2 : WfD (.int .i64) x2) : laws_FnExactSettleSpans x0 x1 x2 = some true := by
  rw [laws_FnExactSettleSpans_eq]
  obtain ⟨r0, e0, h0⟩ := szProgram x0 w0 1048576 (by omega)
  rw [e0, some_bind]
  rcases h0 with h0 | ⟨h0, h1, hs⟩
  · rw [gT h0]
  rw [gF (by omega), szSpanS x1 r0 (by omega) w1.2.1, some_bind]
  by_cases c1 : (x1.2.length : Int) ≤ r0
  · rw [if_pos c1, gF (by omega), toProgram x0 hs, some_bind, toSpanS x1 (by omega), some_bind]
    obtain ⟨f, g, a, s, ok, e1, e2, ha⟩ := settle_law (cpProgram x0) (Sm_cp hs) (WfP_cp (WfD_prog w0)) x1.2 (by omega) (WfD_spans w1) x2
    have e1' : spec_SettleSpans ((cpProgram x0).1, ((cpProgram x0).2.1, (((cpProgram x0).2.2.1.1, (cpProgram x0).2.2.1.2), ((cpProgram x0).2.2.2.1, (cpProgram x0).2.2.2.2)))) (false, x1.2) x2 = some ((f, a), (s, ok)) := e1
    have e2' : impl_SettleSpans ((cpProgram x0).1, ((cpProgram x0).2.1, (((cpProgram x0).2.2.1.1, (cpProgram x0).2.2.1.2), ((cpProgram x0).2.2.2.1, (cpProgram x0).2.2.2.2)))) (false, x1.2) x2 = some ((g, a), (s, ok)) := e2
    have e3 : laws_eqProgram ((cpProgram x0).1, ((cpProgram x0).2.1, (((cpProgram x0).2.2.1.1, (cpProgram x0).2.2.1.2), ((cpProgram x0).2.2.2.1, (cpProgram x0).2.2.2.2)))) ((cpProgram x0).1, ((cpProgram x0).2.1, (((cpProgram x0).2.2.1.1, (cpProgram x0).2.2.1.2), ((cpProgram x0).2.2.2.1, (cpProgram x0).2.2.2.2)))) = some true := eqProgram_same _ (Sm_cp hs)
    obtain ⟨y, z, k', e4, e5, e6⟩ := markProgram (cpProgram x0) (Sm_cp hs) 1 (by omega) (by omega)
    simp only [e1', e2', some_bind, eqSpanS_same g f a ha, beq_self_eq_true, Bool.not_true, cond_false, e3, e4]
    rw [eqSpanS_same false false x1.2 (by omega), some_bind, Bool.not_true, cond_false, markSpanS _ _ _ (by omega) (by omega) (by omega), some_bind, gF (by simp only; omega), markSpanS _ _ _ ha (by omega) (by omega), some_bind]
    simp only [heldSpanS g a.length 1 ha (by omega) (by omega), some_bind]
    rw [gF (by omega), bF (by simp), gF (by omega), bF (by simp)]
  · rw [if_neg c1, gT (by omega)]

end Go.Proofs.Ytdfccojbamlkdaa.R
