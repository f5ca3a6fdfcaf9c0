/- The plain law of FnExactRoundAndRound: what the two functions compute is the same. -/
import Derived.Test.YtdfccojbamlkdaaEFnExactRoundAndRound
set_option linter.all false
namespace Go.Proofs.Ytdfccojbamlkdaa.R
open Go.Rf
/-- The cut of the reference, bit by bit, is the remainder. -/
theorem cut_loop (n a : Nat) (hn : n ≤ 4611686018427387904) (ha : a < 2 ^ 64) (d : Nat) : ∀ i : Nat, i + d = n →
    spec_l1Cut_L0 (n : Int) (a : Int) ((a % 2 ^ (min i 64) : Nat) : Int) (i : Int) = some ((a % 2 ^ (min n 64) : Nat) : Int) := by
  induction d with
  | zero =>
    intro i hi
    obtain rfl : i = n := by omega
    rw [spec_l1Cut_L0_eq, gF (by omega)]
  | succ d ih =>
    intro i hi
    have e1 : IntKind.u64.wrap (i : Int) = (i : Int) := wru (by omega)
    rw [spec_l1Cut_L0_eq, gT (by omega), e1, gF (by omega), up1 i (by omega), bind_id]
    by_cases h64 : i < 64
    · have hlt : a % 2 ^ i < 2 ^ 64 := Nat.lt_of_le_of_lt (Nat.mod_le _ _) ha
      have hp : (2 : Nat) ^ i < 2 ^ 64 := Nat.pow_lt_pow_right (by decide) h64
      rw [shl_one i h64, bAnd_eq a (2 ^ i) ha hp, show min i 64 = i by omega, bOr_eq (a % 2 ^ i) (a &&& 2 ^ i) hlt (Nat.and_lt_two_pow _ hp), cut_step]
      have := ih (i + 1) (by omega)
      rw [show min (i + 1) 64 = i + 1 by omega] at this
      exact this
    · have e3 : bShl .u64 1 (i : Int) = 0 := by
        unfold bShl
        rw [show min ((i : Int)).toNat (IntKind.u64.bits) = 64 by simp only [Int.toNat_natCast, IntKind.bits]; omega, wru_mod]
        decide
      have hlt : a % 2 ^ (min i 64) < 2 ^ 64 := Nat.lt_of_le_of_lt (Nat.mod_le _ _) ha
      rw [e3, show (0 : Int) = ((0 : Nat) : Int) from rfl, bAnd_eq a 0 ha (by decide), bOr_eq _ (a &&& 0) hlt (by simp)]
      rw [show a % 2 ^ (min i 64) ||| a &&& 0 = a % 2 ^ (min (i + 1) 64) by simp; rw [show min i 64 = min (i + 1) 64 by omega]]
      exact ih (i + 1) (by omega)
theorem cut_nat (n a : Nat) (hn : n ≤ 4611686018427387904) (ha : a < 2 ^ 64) : spec_l1Cut (n : Int) (a : Int) = some ((a % 2 ^ (min n 64) : Nat) : Int) := by
  have := cut_loop n a hn ha n 0 (by omega)
  rw [spec_l1Cut_eq, bind_id]
  simpa [Nat.mod_one] using this

/-- The greatest word of a width. -/
def top (wide : Int) : Int := 2 ^ wide.toNat - 1
theorem top_in {wide : Int} (h : 1 ≤ wide ∧ wide ≤ 64) : 1 ≤ top wide ∧ top wide ≤ 18446744073709551615 := by
  obtain ⟨n, rfl⟩ := Int.eq_ofNat_of_zero_le (show 0 ≤ wide by omega)
  have h1 := pow_le64 (n := n) (by omega)
  have h2 : (2 : Nat) ^ 1 ≤ 2 ^ n := Nat.pow_le_pow_right (by decide) (by omega)
  have e : ((2 : Int) ^ n) = ((2 ^ n : Nat) : Int) := by simp
  simp only [top, Int.toNat_natCast, e]
  omega
theorem mask_top (wide : Int) (hw : 1 ≤ wide ∧ wide ≤ 64) : impl_mask wide = some (top wide) := by
  obtain ⟨n, rfl⟩ := Int.eq_ofNat_of_zero_le (show 0 ≤ wide by omega)
  have hp : 0 < (2 : Nat) ^ n := Nat.two_pow_pos _
  have e : ((2 : Int) ^ n) = ((2 ^ n : Nat) : Int) := by simp
  rw [impl_mask_eq, mask_eq n (by omega) (by omega), wr (by omega), gF (by omega)]
  simp only [top, Int.toNat_natCast, e]
  congr 1
  omega
/-- Is a word of a width? -/
def goodWord (wide a : Int) : Bool := decide (1 ≤ wide) && decide (wide ≤ 64) && decide (a ≤ top wide)
theorem goodWord_iff {wide a : Int} : goodWord wide a = true ↔ 1 ≤ wide ∧ wide ≤ 64 ∧ a ≤ top wide := by
  simp only [goodWord, Bool.and_eq_true, decide_eq_true_eq]
  omega
theorem isWide_eq (n : Int) : impl_isWide n = some (decide (1 ≤ n ∧ n ≤ 64)) := by
  rw [impl_isWide_eq]
  by_cases h : n ≥ 1
  · rw [gT h]; congr 1; apply decide_eq_decide.mpr; omega
  · rw [gF h]; congr 1; symm; apply decide_eq_false; omega
theorem l1In_eq (n lo hi : Int) : spec_l1In n lo hi = some (decide (lo ≤ n ∧ n ≤ hi)) := by
  rw [spec_l1In_eq]
  by_cases h : n ≥ lo
  · rw [gT h]; congr 1; apply decide_eq_decide.mpr; omega
  · rw [gF h]; congr 1; symm; apply decide_eq_false; omega
theorem l1Wide_eq (n : Int) : spec_l1Wide n = some (decide (1 ≤ n ∧ n ≤ 64)) := by rw [spec_l1Wide_eq, bind_id, l1In_eq]
theorem spec_goodWord (wide a : Int) (h : U64 a) : spec_GoodWord wide a = some (goodWord wide a) := by
  rw [spec_GoodWord_eq, l1Wide_eq, some_bind]
  by_cases hw : 1 ≤ wide ∧ wide ≤ 64
  · rw [gT hw]
    obtain ⟨h0, h1⟩ := h
    obtain ⟨n, rfl⟩ := Int.eq_ofNat_of_zero_le (show 0 ≤ wide by omega)
    obtain ⟨m, rfl⟩ := Int.eq_ofNat_of_zero_le h0
    have hm : m < 2 ^ 64 := by simpa using (show m < 18446744073709551616 by omega)
    rw [cut_nat n m (by omega) hm, some_bind, show min n 64 = n by omega]
    have e : ((2 : Int) ^ n) = ((2 ^ n : Nat) : Int) := by simp
    have hp : 0 < (2 : Nat) ^ n := Nat.two_pow_pos _
    congr 1
    rw [Bool.eq_iff_iff, beq_iff_eq, goodWord_iff]
    simp only [top, Int.toNat_natCast, e]
    constructor
    · intro h
      have h' : m % 2 ^ n = m := by exact_mod_cast h
      have := Nat.mod_lt m hp
      omega
    · intro h
      rw [Nat.mod_eq_of_lt (by omega)]
  · rw [gF hw]
    congr 1
    symm
    rw [← Bool.not_eq_true, goodWord_iff]
    omega
theorem impl_goodWord (wide a : Int) : impl_GoodWord wide a = some (goodWord wide a) := by
  rw [impl_GoodWord_eq, isWide_eq, some_bind]
  by_cases hw : 1 ≤ wide ∧ wide ≤ 64
  · rw [gT hw, mask_top wide hw, some_bind]
    congr 1
    rw [Bool.eq_iff_iff, goodWord_iff, decide_eq_true_eq]
    omega
  · rw [gF hw]
    congr 1
    symm
    rw [← Bool.not_eq_true, goodWord_iff]
    omega
theorem szNodeS (a : Bool × List DNode) (left : Int) (h0 : 0 ≤ left ∧ left ≤ 1048576) (hl : a.2.length ≤ big) : laws_szNodeS a left = some (if (a.2.length : Int) ≤ left then left - a.2.length else -1) := by
  rw [big_eq] at hl
  rw [laws_szNodeS_eq, wr (by omega)]
  by_cases h : (a.2.length : Int) ≤ left
  · rw [gF (by omega), if_pos h]
  · rw [gT (by omega), if_neg h]
theorem toNodeS (a : Bool × List DNode) (hl : a.2.length ≤ 1048576) : laws_toNodeS a = some (false, a.2) := by
  have hlim : lim = 1099511627776 := rfl
  rw [laws_toNodeS_eq, gT (by omega), gT (by omega), gT (by omega), gT (by omega), bind_id]
  have := loop_map a.2 (fun x => x) (fun o i => laws_toNodeS_L0 a o i) false (fun i h x hx => by
    rw [laws_toNodeS_L0_eq, gT (by omega), gT (by omega), gT (by omega), getD_at a.2 _ i h, laws_toNode_eq, some_bind, gT (by omega), gT (by simp only; omega), up1 i (by omega), bind_id, Int.toNat_natCast]) (fun x hx => by
    rw [laws_toNodeS_L0_eq, gF (by omega)]) (List.replicate (Int.toNat (a.2.length : Int)) (0, 0)) (by simp)
  rw [this]
  simp
theorem eqNodeS_self (a : Bool × List DNode) (hl : a.2.length ≤ 1048576) (b : Bool) : laws_eqNodeS a (b, a.2) = some true := by
  rw [laws_eqNodeS_eq, bF (by simp)]
  have := loop_all a.2 (fun _ => true) (.inr () : Bool ⊕ Unit) (.inl false) (fun i => laws_eqNodeS_L0 a (b, a.2) i) (fun i h => by
    rw [laws_eqNodeS_L0_eq, gT (by omega), gT (by omega), gT (by omega), gT (by omega), gT (by simp only; omega), getD_at a.2 _ i h, laws_eqNode_eq, bF (by simp), bF (by simp), some_bind, bF (by simp), up1 i (by omega), bind_id, cond_true]) (by
    rw [laws_eqNodeS_L0_eq, gF (by omega)])
  rw [this, show (a.2.all fun _ => true) = true by simp]
  rfl
theorem eqNodeS_same (f g : Bool) (l : List DNode) (hl : l.length ≤ 1048576) : laws_eqNodeS (f, l) (g, l) = some true := eqNodeS_self (f, l) hl g
def SmChange (c : DChange) : Prop := c.2.2.length ≤ 1048576
def SmCommand (c : DCommand) : Prop := c.1.2.length ≤ 1048576 ∧ c.2.2.length ≤ 1048576 ∧ ∀ d ∈ c.2.2, SmChange d
def SmProgram (p : DProgram) : Prop := p.2.2.1.2.length ≤ 1048576 ∧ p.2.2.2.2.length ≤ 1048576 ∧ ∀ c ∈ p.2.2.2.2, SmCommand c
theorem szChange (c : DChange) (left : Int) (h0 : 0 ≤ left ∧ left ≤ 1048576) (hl : c.2.2.length ≤ big) : ∃ r, laws_szChange c left = some r ∧ (r < 0 ∨ (0 ≤ r ∧ r ≤ left ∧ SmChange c)) := by
  rw [laws_szChange_eq, szNodeS c.2 left h0 hl, some_bind]
  by_cases h : (c.2.2.length : Int) ≤ left
  · rw [if_pos h, gF (by omega)]
    exact ⟨_, rfl, .inr ⟨by omega, by omega, by unfold SmChange; omega⟩⟩
  · rw [if_neg h, gT (by omega)]
    exact ⟨_, rfl, .inl (by omega)⟩
/-- a loop that counts down what may still come -/
theorem sz_loop {α : Type} (l : List α) (Q : α → Prop) (F : Int → Int → Option (Int ⊕ Int)) (hl : l.length ≤ 1048576)
    (hs : ∀ (i : Nat) (h : i < l.length) (left : Int), 0 ≤ left ∧ left ≤ 1048576 → (F left (i : Int) = some (.inl (-1))) ∨ ∃ r, 0 ≤ r ∧ r ≤ left ∧ Q l[i] ∧ F left (i : Int) = F r ((i + 1 : Nat) : Int))
    (he : ∀ left, F left (l.length : Int) = some (.inr left)) (left : Int) (h0 : 0 ≤ left ∧ left ≤ 1048576) : F left 0 = some (.inl (-1)) ∨ ∃ r, F left 0 = some (.inr r) ∧ 0 ≤ r ∧ r ≤ left ∧ ∀ x ∈ l, Q x := by
  have key : ∀ (d i : Nat) (left : Int), i + d = l.length → 0 ≤ left ∧ left ≤ 1048576 → F left (i : Int) = some (.inl (-1)) ∨ ∃ r, F left (i : Int) = some (.inr r) ∧ 0 ≤ r ∧ r ≤ left ∧ ∀ x ∈ l.drop i, Q x := by
    intro d
    induction d with
    | zero =>
      intro i left hi h0
      obtain rfl : i = l.length := by omega
      exact .inr ⟨left, he left, h0.1, Int.le_refl _, by simp⟩
    | succ d ih =>
      intro i left hi h0
      have hlt : i < l.length := by omega
      rcases hs i hlt left h0 with h | ⟨r, h1, h2, h3, h4⟩
      · exact .inl h
      · rw [h4]
        rcases ih (i + 1) r (by omega) ⟨h1, by omega⟩ with h | ⟨r', h5, h6, h7, h8⟩
        · exact .inl h
        · refine .inr ⟨r', h5, h6, by omega, fun x hx => ?_⟩
          rw [List.drop_eq_getElem_cons hlt] at hx
          rcases List.mem_cons.1 hx with rfl | hx
          · exact h3
          · exact h8 x hx
  have := key l.length 0 left (by omega) h0
  simpa using this
theorem szChangeS (a : Bool × List DChange) (left : Int) (h0 : 0 ≤ left ∧ left ≤ 1048576) (hl : a.2.length ≤ big) (hb : ∀ c ∈ a.2, c.2.2.length ≤ big) : ∃ r, laws_szChangeS a left = some r ∧ (r < 0 ∨ (0 ≤ r ∧ r ≤ left ∧ a.2.length ≤ 1048576 ∧ ∀ c ∈ a.2, SmChange c)) := by
  rw [big_eq] at hl
  rw [laws_szChangeS_eq, wr (by omega)]
  by_cases h : (a.2.length : Int) ≤ left
  · rw [gF (by omega)]
    rcases sz_loop a.2 SmChange (fun left i => laws_szChangeS_L0 a left i) (by omega) (fun i h left h0 => by
      obtain ⟨r, h1, h2⟩ := szChange a.2[i] left h0 (hb _ (List.getElem_mem h))
      rw [laws_szChangeS_L0_eq, gT (by omega), gT (by omega), gT (by omega), getD_at a.2 _ i h, h1, some_bind]
      rcases h2 with h2 | ⟨h2, h3, h4⟩
      · rw [gT h2]; exact .inl rfl
      · rw [gF (by omega), up1 i (by omega), bind_id]; exact .inr ⟨r, h2, h3, h4, rfl⟩) (fun left => by
      rw [laws_szChangeS_L0_eq, gF (by omega)]) (left - a.2.length) (by omega) with h1 | ⟨r, h1, h2, h3, h4⟩
    · rw [h1]; exact ⟨-1, rfl, .inl (by omega)⟩
    · rw [h1]; exact ⟨r, rfl, .inr ⟨h2, by omega, by omega, h4⟩⟩
  · rw [gT (by omega)]
    exact ⟨_, rfl, .inl (by omega)⟩
theorem szCommand (c : DCommand) (left : Int) (h0 : 0 ≤ left ∧ left ≤ 1048576) (h1 : c.1.2.length ≤ big) (hl : c.2.2.length ≤ big) (hb : ∀ d ∈ c.2.2, d.2.2.length ≤ big) : ∃ r, laws_szCommand c left = some r ∧ (r < 0 ∨ (0 ≤ r ∧ r ≤ left ∧ SmCommand c)) := by
  rw [laws_szCommand_eq, szNodeS c.1 left h0 h1, some_bind]
  by_cases h : (c.1.2.length : Int) ≤ left
  · rw [if_pos h, gF (by omega)]
    obtain ⟨r, h2, h3⟩ := szChangeS c.2 (left - c.1.2.length) (by omega) hl hb
    rw [h2, some_bind]
    rcases h3 with h3 | ⟨h3, h4, h5, h6⟩
    · rw [gT h3]; exact ⟨_, rfl, .inl (by omega)⟩
    · rw [gF (by omega)]; exact ⟨_, rfl, .inr ⟨h3, by omega, ⟨by omega, h5, h6⟩⟩⟩
  · rw [if_neg h, gT (by omega)]
    exact ⟨_, rfl, .inl (by omega)⟩
def BigCommand (c : DCommand) : Prop := c.1.2.length ≤ big ∧ c.2.2.length ≤ big ∧ ∀ d ∈ c.2.2, d.2.2.length ≤ big
theorem szCommandS (a : Bool × List DCommand) (left : Int) (h0 : 0 ≤ left ∧ left ≤ 1048576) (hl : a.2.length ≤ big) (hb : ∀ c ∈ a.2, BigCommand c) : ∃ r, laws_szCommandS a left = some r ∧ (r < 0 ∨ (0 ≤ r ∧ r ≤ left ∧ a.2.length ≤ 1048576 ∧ ∀ c ∈ a.2, SmCommand c)) := by
  rw [big_eq] at hl
  rw [laws_szCommandS_eq, wr (by omega)]
  by_cases h : (a.2.length : Int) ≤ left
  · rw [gF (by omega)]
    rcases sz_loop a.2 SmCommand (fun left i => laws_szCommandS_L0 a left i) (by omega) (fun i h left h0 => by
      obtain ⟨b1, b2, b3⟩ := hb _ (List.getElem_mem h)
      obtain ⟨r, h1, h2⟩ := szCommand a.2[i] left h0 b1 b2 b3
      rw [laws_szCommandS_L0_eq, gT (by omega), gT (by omega), gT (by omega), getD_at a.2 _ i h, h1, some_bind]
      rcases h2 with h2 | ⟨h2, h3, h4⟩
      · rw [gT h2]; exact .inl rfl
      · rw [gF (by omega), up1 i (by omega), bind_id]; exact .inr ⟨r, h2, h3, h4, rfl⟩) (fun left => by
      rw [laws_szCommandS_L0_eq, gF (by omega)]) (left - a.2.length) (by omega) with h1 | ⟨r, h1, h2, h3, h4⟩
    · rw [h1]; exact ⟨-1, rfl, .inl (by omega)⟩
    · rw [h1]; exact ⟨r, rfl, .inr ⟨h2, by omega, by omega, h4⟩⟩
  · rw [gT (by omega)]
    exact ⟨_, rfl, .inl (by omega)⟩
theorem WfD_big {p : DProgram} (w : WfD tyProgram p) : p.2.2.1.2.length ≤ big ∧ p.2.2.2.2.length ≤ big ∧ ∀ c ∈ p.2.2.2.2, BigCommand c := by
  obtain ⟨_, _, h1, h2⟩ := w
  refine ⟨h1.2.1, h2.2.1, fun c hc => ?_⟩
  obtain ⟨h3, h4⟩ := h2.2.2 c hc
  exact ⟨h3.2.1, h4.2.1, fun d hd => (h4.2.2 d hd).2.2.1⟩
theorem szProgram (p : DProgram) (w : WfD tyProgram p) (left : Int) (h0 : 0 ≤ left ∧ left ≤ 1048576) : ∃ r, laws_szProgram p left = some r ∧ (r < 0 ∨ (0 ≤ r ∧ r ≤ left ∧ SmProgram p)) := by
  obtain ⟨b1, b2, b3⟩ := WfD_big w
  rw [laws_szProgram_eq, szNodeS p.2.2.1 left h0 b1, some_bind]
  by_cases h : (p.2.2.1.2.length : Int) ≤ left
  · rw [if_pos h, gF (by omega)]
    obtain ⟨r, h2, h3⟩ := szCommandS p.2.2.2 (left - p.2.2.1.2.length) (by omega) b2 b3
    rw [h2, some_bind]
    rcases h3 with h3 | ⟨h3, h4, h5, h6⟩
    · rw [gT h3]; exact ⟨_, rfl, .inl (by omega)⟩
    · rw [gF (by omega)]; exact ⟨_, rfl, .inr ⟨h3, by omega, ⟨by omega, h5, h6⟩⟩⟩
  · rw [if_neg h, gT (by omega)]
    exact ⟨_, rfl, .inl (by omega)⟩
/-! a copy: no slice is nil -/
def cpChange (c : DChange) : DChange := (c.1, (false, c.2.2))
def cpCommand (c : DCommand) : DCommand := ((false, c.1.2), (false, c.2.2.map cpChange))
def cpProgram (p : DProgram) : DProgram := (p.1, (p.2.1, ((false, p.2.2.1.2), (false, p.2.2.2.2.map cpCommand))))
theorem toChangeS (a : Bool × List DChange) (hl : a.2.length ≤ 1048576) (hs : ∀ c ∈ a.2, SmChange c) : laws_toChangeS a = some (false, a.2.map cpChange) := by
  have hlim : lim = 1099511627776 := rfl
  rw [laws_toChangeS_eq, gT (by omega), gT (by omega), gT (by omega), gT (by omega), bind_id]
  exact loop_map a.2 cpChange (fun o i => laws_toChangeS_L0 a o i) false (fun i h x hx => by
    rw [laws_toChangeS_L0_eq, gT (by omega), gT (by omega), gT (by omega), getD_at a.2 _ i h, laws_toChange_eq, toNodeS _ (hs _ (List.getElem_mem h)), some_bind, some_bind, gT (by omega), gT (by simp only; omega), up1 i (by omega), bind_id, Int.toNat_natCast]
    rfl) (fun x hx => by
    rw [laws_toChangeS_L0_eq, gF (by omega)]) (List.replicate (Int.toNat (a.2.length : Int)) (0, (true, []))) (by simp)
theorem toCommandS (a : Bool × List DCommand) (hl : a.2.length ≤ 1048576) (hs : ∀ c ∈ a.2, SmCommand c) : laws_toCommandS a = some (false, a.2.map cpCommand) := by
  have hlim : lim = 1099511627776 := rfl
  rw [laws_toCommandS_eq, gT (by omega), gT (by omega), gT (by omega), gT (by omega), bind_id]
  exact loop_map a.2 cpCommand (fun o i => laws_toCommandS_L0 a o i) false (fun i h x hx => by
    obtain ⟨s1, s2, s3⟩ := hs _ (List.getElem_mem h)
    rw [laws_toCommandS_L0_eq, gT (by omega), gT (by omega), gT (by omega), getD_at a.2 _ i h, laws_toCommand_eq, toNodeS _ s1, some_bind, toChangeS _ s2 s3, some_bind, some_bind, gT (by omega), gT (by simp only; omega), up1 i (by omega), bind_id, Int.toNat_natCast]
    rfl) (fun x hx => by
    rw [laws_toCommandS_L0_eq, gF (by omega)]) (List.replicate (Int.toNat (a.2.length : Int)) ((true, []), (true, []))) (by simp)
theorem toProgram (p : DProgram) (hs : SmProgram p) : laws_toProgram p = some (cpProgram p) := by
  obtain ⟨s1, s2, s3⟩ := hs
  rw [laws_toProgram_eq, toNodeS _ s1, some_bind, toCommandS _ s2 s3, some_bind]
  rfl
/-- two loops over one list that find no difference -/
theorem eq_loop {α : Type} (l : List α) (F : Int → Option (Bool ⊕ Unit)) (hs : ∀ (i : Nat) (h : i < l.length), F (i : Int) = F ((i + 1 : Nat) : Int)) (he : F (l.length : Int) = some (.inr ())) : F 0 = some (.inr ()) := by
  have key : ∀ (d i : Nat), i + d = l.length → F (i : Int) = some (.inr ()) := by
    intro d
    induction d with
    | zero => intro i hi; obtain rfl : i = l.length := by omega
              exact he
    | succ d ih => intro i hi; rw [hs i (by omega)]; exact ih (i + 1) (by omega)
  simpa using key l.length 0 (by omega)
theorem eqChangeS_same (f g : Bool) (l : List DChange) (hl : l.length ≤ 1048576) (hs : ∀ c ∈ l, SmChange c) : laws_eqChangeS (f, l) (g, l) = some true := by
  rw [laws_eqChangeS_eq, bF (by simp)]
  have := eq_loop l (fun i => laws_eqChangeS_L0 (f, l) (g, l) i) (fun i h => by
    rw [laws_eqChangeS_L0_eq, gT (by simp only; omega), gT (by omega), gT (by simp only; omega), gT (by omega), gT (by simp only; omega), getD_at l _ i h, laws_eqChange_eq, bF (by simp), eqNodeS_same l[i].2.1 l[i].2.1 l[i].2.2 (hs _ (List.getElem_mem h)), some_bind, bF (by simp), some_bind, bF (by simp), up1 i (by omega), bind_id]) (by
    rw [laws_eqChangeS_L0_eq, gF (by simp only; omega)])
  rw [this]
  rfl
theorem eqCommandS_same (f g : Bool) (l : List DCommand) (hl : l.length ≤ 1048576) (hs : ∀ c ∈ l, SmCommand c) : laws_eqCommandS (f, l) (g, l) = some true := by
  rw [laws_eqCommandS_eq, bF (by simp)]
  have := eq_loop l (fun i => laws_eqCommandS_L0 (f, l) (g, l) i) (fun i h => by
    obtain ⟨s1, s2, s3⟩ := hs _ (List.getElem_mem h)
    rw [laws_eqCommandS_L0_eq, gT (by simp only; omega), gT (by omega), gT (by simp only; omega), gT (by omega), gT (by simp only; omega), getD_at l _ i h, laws_eqCommand_eq, eqNodeS_same l[i].1.1 l[i].1.1 l[i].1.2 s1, some_bind, bF (by simp), eqChangeS_same l[i].2.1 l[i].2.1 l[i].2.2 s2 s3, some_bind, bF (by simp), some_bind, bF (by simp), up1 i (by omega), bind_id]) (by
    rw [laws_eqCommandS_L0_eq, gF (by simp only; omega)])
  rw [this]
  rfl
theorem eqProgram_same (p : DProgram) (hs : SmProgram p) : laws_eqProgram p p = some true := by
  obtain ⟨s1, s2, s3⟩ := hs
  rw [laws_eqProgram_eq, bF (by simp), bF (by simp), eqNodeS_same p.2.2.1.1 p.2.2.1.1 p.2.2.1.2 s1, some_bind, bF (by simp), eqCommandS_same p.2.2.2.1 p.2.2.2.1 p.2.2.2.2 s2 s3, some_bind, bF (by simp)]
theorem Sm_cp {p : DProgram} (hs : SmProgram p) : SmProgram (cpProgram p) := by
  obtain ⟨s1, s2, s3⟩ := hs
  refine ⟨s1, by simpa [cpProgram] using s2, fun c hc => ?_⟩
  obtain ⟨c0, h1, rfl⟩ := List.mem_map.1 hc
  obtain ⟨q1, q2, q3⟩ := s3 c0 h1
  refine ⟨q1, by simpa [cpCommand] using q2, fun d hd => ?_⟩
  obtain ⟨d0, h2, rfl⟩ := List.mem_map.1 hd
  exact q3 d0 h2
theorem toIntS (a : Bool × List Int) (hl : a.2.length ≤ 1048576) : laws_toIntS a = some (false, a.2) := by
  have hlim := lim_eq
  rw [laws_toIntS_eq, gT (by omega), gT (by omega), gT (by omega), gT (by omega)]
  have := loop_map a.2 (fun x => x) (fun o i => laws_toIntS_L0 a o i) false (fun i h x hx => by
    rw [laws_toIntS_L0_eq, gT (by omega), gT (by omega), gT (by omega), gT (by omega), gT (by simp only; omega), getD_at a.2 _ i h, up1 i (by omega), bind_id, Int.toNat_natCast]) (fun x hx => by
    rw [laws_toIntS_L0_eq, gF (by omega)]) (List.replicate (Int.toNat (a.2.length : Int)) (0 : Int)) (by simp)
  rw [this, some_bind, List.map_id']
theorem eqIntS_same (f g : Bool) (l : List Int) (hl : l.length ≤ 1048576) : laws_eqIntS (f, l) (g, l) = some true := by
  rw [laws_eqIntS_eq, bF (by simp), eq_loop l (fun i => laws_eqIntS_L0 (f, l) (g, l) i) (fun i h => by
    rw [laws_eqIntS_L0_eq, gT (by simp only; omega), gT (by omega), gT (by simp only; omega), gT (by omega), gT (by simp only; omega), bF (by simp), up1 i (by omega), bind_id]) (by rw [laws_eqIntS_L0_eq, gF (by simp)]), some_bind]
theorem szIntS (a : Bool × List Int) (left : Int) (h0 : 0 ≤ left ∧ left ≤ 1048576) (hl : a.2.length ≤ big) : laws_szIntS a left = some (if (a.2.length : Int) ≤ left then left - a.2.length else -1) := by
  rw [big_eq] at hl
  rw [laws_szIntS_eq, wr (by omega)]
  by_cases h : (a.2.length : Int) ≤ left
  · rw [gF (by omega), if_pos h]
  · rw [gT (by omega), if_neg h]
/-- the numbers from k on, n of them -/
def countL (k : Int) : Nat → List Int
  | 0 => []
  | n + 1 => k :: countL (k + 1) n
theorem countL_length (n : Nat) : ∀ k : Int, (countL k n).length = n := by
  induction n with
  | zero => intro k; rfl
  | succ n ih => intro k; simp [countL, ih]
theorem markIntS_L0 (d : Nat) : ∀ (i : Nat) (b : Bool) (x : List Int) (k : Int), i + d = x.length → x.length ≤ 1048576 → 0 ≤ k → k + d ≤ 4000000000000000000 → laws_markIntS_L0 (b, x) k (i : Int) = some ((b, x.take i ++ countL k d), k + d) := by
  induction d with
  | zero =>
    intro i b x k hi hl hk hk2
    rw [laws_markIntS_L0_eq, gF (by simp only; omega), List.take_of_length_le (by omega)]
    simp [countL]
  | succ d ih =>
    intro i b x k hi hl hk hk2
    rw [laws_markIntS_L0_eq, gT (by simp only; omega), gT (by omega), gT (by simp only; omega), up1 i (by omega), wr (by omega), bind_id, Int.toNat_natCast, ih (i + 1) b (x.set i k) (k + 1) (by simp; omega) (by simpa using hl) (by omega) (by omega)]
    have e : (x.set i k).take (i + 1) = x.take i ++ [k] := by
      rw [List.take_succ_eq_append_getElem (by simpa using (by omega : i < x.length)), List.getElem_set_self, List.take_set_of_le (Nat.le_refl _)]
    rw [e, countL, List.append_assoc, List.singleton_append, show k + 1 + (d : Int) = k + ((d + 1 : Nat) : Int) by omega]
theorem markIntS (b : Bool) (x : List Int) (k : Int) (hl : x.length ≤ 1048576) (h0 : 0 ≤ k) (hk : k + x.length ≤ 4000000000000000000) : laws_markIntS (b, x) k = some ((b, countL k x.length), k + x.length) := by
  have := markIntS_L0 x.length 0 b x k (by omega) hl h0 hk
  have h' : laws_markIntS_L0 (b, x) k 0 = _ := this
  rw [laws_markIntS_eq, h', some_bind, List.take_zero, List.nil_append]
theorem heldIntS_L0 (d : Nat) : ∀ (i : Nat) (b : Bool) (x : List Int) (k : Int), i + d = x.length → x.length ≤ 1048576 → 0 ≤ k → k + d ≤ 4000000000000000000 → x.drop i = countL k d → laws_heldIntS_L0 (b, x) k (i : Int) = some (.inr (k + d)) := by
  induction d with
  | zero =>
    intro i b x k hi hl hk hk2 hx
    rw [laws_heldIntS_L0_eq, gF (by simp only; omega)]
    simp
  | succ d ih =>
    intro i b x k hi hl hk hk2 hx
    have hlt : i < x.length := by omega
    rw [List.drop_eq_getElem_cons hlt, countL] at hx
    obtain ⟨hx1, hx2⟩ := List.cons.inj hx
    rw [laws_heldIntS_L0_eq, gT (by simp only; omega), gT (by omega), gT (by simp only; omega), getD_at x _ i hlt, hx1, bF (by simp), up1 i (by omega), wr (by omega), bind_id, ih (i + 1) b x (k + 1) (by omega) hl (by omega) (by omega) hx2]
    congr 2
    omega
theorem heldIntS (b : Bool) (n : Nat) (k : Int) (hl : n ≤ 1048576) (h0 : 0 ≤ k) (hk : k + n ≤ 4000000000000000000) : laws_heldIntS (b, countL k n) k = some (k + n) := by
  have h1 := countL_length n k
  have := heldIntS_L0 n 0 b (countL k n) k (by omega) (by omega) h0 (by omega) rfl
  have h' : laws_heldIntS_L0 (b, countL k n) k 0 = _ := this
  rw [laws_heldIntS_eq, h', some_bind]
theorem getD_set_self {α : Type} (l : List α) (i : Nat) (x z : α) (h : i < l.length) : (l.set i x).getD i z = x := by
  simp [List.getD_eq_getElem?_getD, h]
/-- the numbers from k on, two for each node, n nodes -/
def countN (k : Int) : Nat → List DNode
  | 0 => []
  | n + 1 => (k, IntKind.u64.wrap (k + 1)) :: countN (k + 2) n
theorem countN_length (n : Nat) : ∀ k : Int, (countN k n).length = n := by
  induction n with
  | zero => intro k; rfl
  | succ n ih => intro k; simp [countN, ih]
theorem markNodeS_L0 (d : Nat) : ∀ (i : Nat) (b : Bool) (x : List DNode) (k : Int), i + d = x.length → x.length ≤ 1048576 → 0 ≤ k → k + 2 * d ≤ 4000000000000000000 → laws_markNodeS_L0 (b, x) k (i : Int) = some ((b, x.take i ++ countN k d), k + 2 * d) := by
  induction d with
  | zero =>
    intro i b x k hi hl hk hk2
    rw [laws_markNodeS_L0_eq, gF (by simp only; omega), List.take_of_length_le (by omega)]
    simp [countN]
  | succ d ih =>
    intro i b x k hi hl hk hk2
    have hlt : i < x.length := by omega
    have hw : IntKind.i64.wrap (k + 1) = k + 1 := wr (by omega)
    have e1 : (x.set i (k, (x.getD i (0, 0)).2)).getD i (0, 0) = (k, (x.getD i (0, 0)).2) := getD_set_self x i _ _ hlt
    rw [laws_markNodeS_L0_eq, gT (by simp only; omega), gT (by omega), gT (by simp only; omega), gT (by omega), gT (by rw [List.length_set]; simp only; omega), up1 i (by omega), hw, wr (by omega), bind_id]
    simp only [Int.toNat_natCast, e1, List.set_set]
    rw [ih (i + 1) b (x.set i (k, IntKind.u64.wrap (k + 1))) (k + 1 + 1) (by rw [List.length_set]; omega) (by rw [List.length_set]; exact hl) (by omega) (by omega)]
    have e : (x.set i (k, IntKind.u64.wrap (k + 1))).take (i + 1) = x.take i ++ [(k, IntKind.u64.wrap (k + 1))] := by
      rw [List.take_succ_eq_append_getElem (by rw [List.length_set]; exact hlt), List.getElem_set_self, List.take_set_of_le (Nat.le_refl _)]
    rw [e, countN, List.append_assoc, List.singleton_append, show k + 1 + 1 + 2 * (d : Int) = k + 2 * ((d + 1 : Nat) : Int) by omega, show k + 1 + 1 = k + 2 by omega]
theorem markNodeS_at (a : Bool × List DNode) (k : Int) (hl : a.2.length ≤ 1048576) (h0 : 0 ≤ k) (hk : k + 2 * a.2.length ≤ 4000000000000000000) : laws_markNodeS a k = some ((a.1, countN k a.2.length), k + 2 * a.2.length) := by
  have h2 := markNodeS_L0 a.2.length 0 a.1 a.2 k (by omega) hl h0 hk
  have h' : laws_markNodeS_L0 (a.1, a.2) k 0 = _ := h2
  rw [laws_markNodeS_eq, h', some_bind, List.take_zero, List.nil_append]
theorem markNodeS (a : Bool × List DNode) (k : Int) (hl : a.2.length ≤ 1048576) (h0 : 0 ≤ k) (hk : k + 2 * 1048576 ≤ 4000000000000000000) : ∃ y k', y.length = a.2.length ∧ laws_markNodeS a k = some ((a.1, y), k') ∧ k ≤ k' ∧ k' ≤ k + 2 * 1048576 :=
  ⟨_, _, countN_length _ _, markNodeS_at a k hl h0 (by omega), by omega, by omega⟩
theorem loop_mark {α : Type} (P : α → Prop) (A : Int) (hA : 0 ≤ A) (F : Bool × List α → Int → Int → Option ((Bool × List α) × Int)) (b : Bool) (n : Nat)
    (hs : ∀ (i : Nat) (x : List α) (k : Int) (h : i < x.length), x.length = n → P x[i] → 0 ≤ k → k + A ≤ 4000000000000000000 → ∃ e k', F (b, x) k (i : Int) = F (b, x.set i e) k' ((i + 1 : Nat) : Int) ∧ k ≤ k' ∧ k' ≤ k + A)
    (he : ∀ (x : List α) (k : Int), x.length = n → F (b, x) k (n : Int) = some ((b, x), k)) (d : Nat) : ∀ (i : Nat) (x : List α) (k : Int), i + d = n → x.length = n → (∀ e ∈ x.drop i, P e) → 0 ≤ k → k + d * A ≤ 4000000000000000000 →
    ∃ y k', y.length = x.length ∧ F (b, x) k (i : Int) = some ((b, y), k') ∧ k ≤ k' ∧ k' ≤ k + d * A := by
  induction d with
  | zero =>
    intro i x k hi hx hp hk hk2
    obtain rfl : i = n := by omega
    exact ⟨x, k, rfl, he x k hx, by omega, by simp⟩
  | succ d ih =>
    intro i x k hi hx hp hk hk2
    have e1 : ((d + 1 : Nat) : Int) * A = d * A + A := by rw [Int.natCast_add, Int.add_mul]; simp
    have e2 : 0 ≤ (d : Int) * A := Int.mul_nonneg (by omega) hA
    rw [e1] at hk2
    have hlt : i < x.length := by omega
    rw [List.drop_eq_getElem_cons hlt] at hp
    obtain ⟨e, k1, q2, q3, q4⟩ := hs i x k hlt hx (hp _ List.mem_cons_self) hk (by omega)
    obtain ⟨y, k2, r1, r2, r3, r4⟩ := ih (i + 1) (x.set i e) k1 (by omega) (by rw [List.length_set]; exact hx) (fun c hc => by
      rw [List.drop_set_of_lt (by omega)] at hc
      exact hp c (List.mem_cons_of_mem _ hc)) (by omega) (by omega)
    rw [List.length_set] at r1
    exact ⟨y, k2, r1, by rw [q2, r2], by omega, by rw [e1]; omega⟩
theorem markChangeS (a : Bool × List DChange) (k : Int) (hl : a.2.length ≤ 1048576) (hs : ∀ c ∈ a.2, SmChange c) (h0 : 0 ≤ k) (hk : k + 1048576 * 2097153 ≤ 4000000000000000000) : ∃ y k', y.length = a.2.length ∧ laws_markChangeS a k = some ((a.1, y), k') ∧ k ≤ k' ∧ k' ≤ k + 1048576 * 2097153 := by
  obtain ⟨y, k', h1, h2, h3, h4⟩ := loop_mark SmChange 2097153 (by omega) laws_markChangeS_L0 a.1 a.2.length (fun i x k h hx hp hk hk2 => by
    have hw : IntKind.i64.wrap (k + 1) = k + 1 := wr (by omega)
    obtain ⟨y, k', q1, q2, q3, q4⟩ := markNodeS x[i].2 (k + 1) hp (by omega) (by omega)
    refine ⟨(k, (x[i].2.1, y)), k', ?_, by omega, by omega⟩
    have e0 : x.getD i (0, (true, [])) = x[i] := by simp [List.getD_eq_getElem?_getD, h]
    have e1 : (x.set i (k, x[i].2)).getD i (0, (true, [])) = (k, x[i].2) := getD_set_self x i _ _ h
    rw [laws_markChangeS_L0_eq, gT (by simp only; omega), gT (by omega), gT (by simp only; omega), gT (by omega), gT (by rw [List.length_set]; simp only; omega), up1 i (by omega), hw]
    have q2' : laws_markNodeS (x[i].2.1, x[i].2.2) (k + 1) = some ((x[i].2.1, y), k') := q2
    simp only [Int.toNat_natCast, e0, e1, q2', some_bind, bind_id, List.set_set]) (fun x k hx => by rw [laws_markChangeS_L0_eq, gF (by simp only; omega)]) a.2.length 0 a.2 k (by omega) rfl (by simpa using hs) h0 (by omega)
  have h' : laws_markChangeS_L0 (a.1, a.2) k 0 = _ := h2
  exact ⟨y, k', h1, by rw [laws_markChangeS_eq, h', some_bind], h3, by omega⟩
theorem markCommandS (a : Bool × List DCommand) (k : Int) (hl : a.2.length ≤ 1048576) (hs : ∀ c ∈ a.2, SmCommand c) (h0 : 0 ≤ k) (hk : k + 1048576 * 2199026401280 ≤ 4000000000000000000) : ∃ y k', y.length = a.2.length ∧ laws_markCommandS a k = some ((a.1, y), k') ∧ k ≤ k' ∧ k' ≤ k + 1048576 * 2199026401280 := by
  obtain ⟨y, k', h1, h2, h3, h4⟩ := loop_mark SmCommand 2199026401280 (by omega) laws_markCommandS_L0 a.1 a.2.length (fun i x k h hx hp hk hk2 => by
    obtain ⟨y, k1, q1, q2, q3, q4⟩ := markNodeS x[i].1 k hp.1 (by omega) (by omega)
    obtain ⟨z, k2, r1, r2, r3, r4⟩ := markChangeS x[i].2 k1 hp.2.1 hp.2.2 (by omega) (by omega)
    refine ⟨((x[i].1.1, y), (x[i].2.1, z)), k2, ?_, by omega, by omega⟩
    have e0 : x.getD i ((true, []), (true, [])) = x[i] := by simp [List.getD_eq_getElem?_getD, h]
    have e1 : (x.set i ((x[i].1.1, y), x[i].2)).getD i ((true, []), (true, [])) = ((x[i].1.1, y), x[i].2) := getD_set_self x i _ _ h
    have q2' : laws_markNodeS (x[i].1.1, x[i].1.2) k = some ((x[i].1.1, y), k1) := q2
    have r2' : laws_markChangeS (x[i].2.1, x[i].2.2) k1 = some ((x[i].2.1, z), k2) := r2
    rw [laws_markCommandS_L0_eq, gT (by simp only; omega), gT (by omega), gT (by simp only; omega), up1 i (by omega)]
    simp only [Int.toNat_natCast, e0, q2', some_bind]
    rw [gT (by omega), gT (by omega)]
    simp only [e1, r2', some_bind, bind_id, List.set_set]) (fun x k hx => by rw [laws_markCommandS_L0_eq, gF (by simp only; omega)]) a.2.length 0 a.2 k (by omega) rfl (by simpa using hs) h0 (by omega)
  have h' : laws_markCommandS_L0 (a.1, a.2) k 0 = _ := h2
  exact ⟨y, k', h1, by rw [laws_markCommandS_eq, h', some_bind], h3, by omega⟩
/-- the laws write over their own copy of a program -/
theorem markProgram (p : DProgram) (hs : SmProgram p) (k : Int) (h0 : 0 ≤ k) (hk : k ≤ 1000000000) : ∃ y z k', laws_markProgram p.1 p.2.1 (p.2.2.1.1, p.2.2.1.2) (p.2.2.2.1, p.2.2.2.2) k = some (y, (z, k')) ∧ k ≤ k' ∧ k' ≤ 3000000000000000000 := by
  obtain ⟨y, k1, q1, q2, q3, q4⟩ := markNodeS p.2.2.1 k hs.1 (by omega) (by omega)
  obtain ⟨z, k2, r1, r2, r3, r4⟩ := markCommandS p.2.2.2 k1 hs.2.1 hs.2.2 (by omega) (by omega)
  have q2' : laws_markNodeS (p.2.2.1.1, p.2.2.1.2) k = _ := q2
  have r2' : laws_markCommandS (p.2.2.2.1, p.2.2.2.2) k1 = _ := r2
  exact ⟨_, _, k2, by rw [laws_markProgram_eq, q2', some_bind, r2', some_bind], by omega, by omega⟩
/-- What an operation needs: how many operands, their kind, its own kind. -/
def need (op : Int) : Int × Int × Int :=
  if op = 1 ∨ op = 2 then (0, 1, 1) else if op = 20 then (0, 2, 2) else if op = 13 then (1, 1, 1) else if op = 19 then (1, 2, 2)
  else if 3 ≤ op ∧ op ≤ 12 then (2, 1, 1) else if 14 ≤ op ∧ op ≤ 16 then (2, 1, 2) else if op = 17 ∨ op = 18 then (2, 2, 2) else (0, 0, 0)
theorem need_cases (op : Int) : need op = (0, 1, 1) ∨ need op = (0, 2, 2) ∨ need op = (1, 1, 1) ∨ need op = (1, 2, 2) ∨ need op = (2, 1, 1) ∨ need op = (2, 1, 2) ∨ need op = (2, 2, 2) ∨ need op = (0, 0, 0) := by
  unfold need
  repeat' split
  all_goals simp
theorem need_two (op : Int) : ∃ m : Nat, (need op).1 = (m : Int) ∧ m ≤ 2 := by
  rcases need_cases op with h | h | h | h | h | h | h | h <;> rw [h]
  · exact ⟨0, rfl, by omega⟩
  · exact ⟨0, rfl, by omega⟩
  · exact ⟨1, rfl, by omega⟩
  · exact ⟨1, rfl, by omega⟩
  · exact ⟨2, rfl, by omega⟩
  · exact ⟨2, rfl, by omega⟩
  · exact ⟨2, rfl, by omega⟩
  · exact ⟨0, rfl, by omega⟩
theorem l2Need (op : Int) : spec_l2Need op = some (need op) := by
  rw [spec_l2Need_eq, l1In_eq, l1In_eq]
  unfold need
  by_cases h1 : op = 1
  · simp [h1]
  · by_cases h2 : op = 2
    · simp [h2]
    · by_cases h3 : op = 20
      · simp [h3]
      · by_cases h4 : op = 13
        · simp [h4]
        · by_cases h5 : op = 19
          · simp [h5]
          · by_cases h6 : 3 ≤ op ∧ op ≤ 12
            · simp [h1, beqF h1, h2, beqF h2, h3, beqF h3, h4, beqF h4, h5, beqF h5, h6]
            · by_cases h8 : 14 ≤ op ∧ op ≤ 16
              · have h6' : ¬ (3 ≤ op ∧ op ≤ 12) := h6
                simp [h1, beqF h1, h2, beqF h2, h3, beqF h3, h4, beqF h4, h5, beqF h5, h6', h8]
              · by_cases h10 : op = 17
                · simp [h10]
                · by_cases h11 : op = 18
                  · simp [h11]
                  · have h6' : ¬ (3 ≤ op ∧ op ≤ 12) := h6
                    have h8' : ¬ (14 ≤ op ∧ op ≤ 16) := h8
                    simp [h1, beqF h1, h2, beqF h2, h3, beqF h3, h4, beqF h4, h5, beqF h5, h6', h8', h10, beqF h10, h11, beqF h11]
/-- The program names no kind for an operation without operands. -/
def needI (op : Int) : Int × Int × Int := if op = 1 ∨ op = 2 then (0, 0, 1) else if op = 20 then (0, 0, 2) else need op
theorem operandsOf (op : Int) : impl_operandsOf op = some (needI op) := by
  rw [impl_operandsOf_eq]
  unfold needI need
  by_cases h1 : op = 1
  · simp [h1]
  · by_cases h2 : op = 2
    · simp [h2]
    · by_cases h3 : op = 20
      · simp [h3]
      · by_cases h4 : op = 13
        · simp [h4]
        · by_cases h5 : op = 19
          · simp [h5]
          · by_cases h6 : 3 ≤ op
            · by_cases h7 : op ≤ 12
              · simp [h1, beqF h1, h2, beqF h2, h3, beqF h3, h4, beqF h4, h5, beqF h5, h6, h7]
              · by_cases h8 : 14 ≤ op
                · by_cases h9 : op ≤ 16
                  · simp [h1, beqF h1, h2, beqF h2, h3, beqF h3, h4, beqF h4, h5, beqF h5, h6, h7, h8, h9]
                  · by_cases h10 : op = 17
                    · simp [h10]
                    · by_cases h11 : op = 18
                      · simp [h11]
                      · simp [h1, beqF h1, h2, beqF h2, h3, beqF h3, h4, beqF h4, h5, beqF h5, h6, h7, h8, h9, h10, beqF h10, h11, beqF h11]
                · have h10 : ¬ op = 17 := by omega
                  have h11 : ¬ op = 18 := by omega
                  simp [h1, beqF h1, h2, beqF h2, h3, beqF h3, h4, beqF h4, h5, beqF h5, h6, h7, h8, h10, beqF h10, h11, beqF h11]
            · have h8 : ¬ 14 ≤ op := by omega
              have h10 : ¬ op = 17 := by omega
              have h11 : ¬ op = 18 := by omega
              simp [h1, beqF h1, h2, beqF h2, h3, beqF h3, h4, beqF h4, h5, beqF h5, h6, h8, h10, beqF h10, h11, beqF h11]
theorem needI_parts (op : Int) : (needI op).1 = (need op).1 ∧ (needI op).2.2 = (need op).2.2 ∧ ((need op).1 = 0 ∨ (needI op).2.1 = (need op).2.1) := by
  unfold needI
  by_cases h1 : op = 1 ∨ op = 2
  · simp [need, h1]
  · by_cases h2 : op = 20
    · simp [need, h2]
    · simp [h1, h2]
/-- Is an operation's number right? -/
def leafOk (wide vars op n : Int) : Bool := if op = 1 then goodWord wide n else if op = 2 then decide (n < vars) else if op = 20 then decide (n < 2) else n == 0
theorem l2N (wide vars : Int) (x : DNode) (hv : 0 ≤ vars ∧ vars ≤ 4) (h : U64 x.2) : spec_l2N wide vars x = some (leafOk wide vars x.1 x.2) := by
  rw [spec_l2N_eq, spec_goodWord wide x.2 h, wru (by omega)]
  unfold leafOk
  by_cases a1 : x.1 = 1
  · simp [a1]
  · by_cases a2 : x.1 = 2
    · simp [a2]
    · by_cases a3 : x.1 = 20
      · simp [a3]
      · simp [a1, a2, a3, beqF a1, beqF a2, beqF a3]
theorem isLeafRight (wide vars : Int) (x : DNode) (hv : 0 ≤ vars ∧ vars ≤ 4) : impl_isLeafRight wide vars x = some (leafOk wide vars x.1 x.2) := by
  rw [impl_isLeafRight_eq, impl_goodWord wide x.2, wru (by omega)]
  unfold leafOk
  by_cases a1 : x.1 = 1
  · simp [a1]
  · by_cases a2 : x.1 = 2
    · simp [a2]
    · by_cases a3 : x.1 = 20
      · simp [a3]
        omega
      · simp [a1, a2, a3, beqF a1, beqF a2, beqF a3]
/-- One operation on the stack of kinds. -/
def kstep (wide vars : Int) (st : List Int) (x : DNode) : Option (List Int) :=
  if (need x.1).2.2 = 0 then none else if leafOk wide vars x.1 x.2 = true then
    (if (st.length : Int) < (need x.1).1 then none else if (st.drop (st.length - (need x.1).1.toNat)).all (fun y => y == (need x.1).2.1) = true then some (st.take (st.length - (need x.1).1.toNat) ++ [(need x.1).2.2]) else none)
  else none
def kfold (wide vars : Int) : List DNode → List Int → Option (List Int)
  | [], st => some st
  | x :: xs, st => (kstep wide vars st x).bind (kfold wide vars xs)
/-- A term's kind: 0 for none. -/
def kindT (wide vars : Int) (t : List DNode) : Int :=
  if 1 ≤ wide ∧ wide ≤ 64 ∧ 1 ≤ vars ∧ vars ≤ 4 ∧ 1 ≤ t.length ∧ t.length ≤ 48 then (match kfold wide vars t [] with
    | some [a] => a
    | _ => 0) else 0
theorem l2Kind_L2 (wide vars part own n i : Int) (t : Bool × List DNode) (m : Nat) : ∀ (b : Bool) (st : List Int), m ≤ st.length → st.length < 1000 →
    spec_l2Kind_L2 wide vars (b, st) (m : Int) part own t n i = if (st.drop (st.length - m)).all (fun y => y == part) = true then some (.inr (b, st.take (st.length - m))) else some (.inl 0) := by
  induction m with
  | zero =>
    intro b st hm hs
    rw [spec_l2Kind_L2_eq, gF (by omega)]
    simp
  | succ m ih =>
    intro b st hm hs
    rcases List.eq_nil_or_concat st with rfl | ⟨st', a, rfl⟩
    · simp at hm
    · rw [List.concat_eq_append] at *
      simp only [List.length_append, List.length_singleton] at hm hs ⊢
      have e1 : IntKind.i64.wrap (((st'.length + 1 : Nat) : Int) - 1) = (st'.length : Int) := by rw [wr (by omega)]; omega
      have e2 : IntKind.i64.wrap (((m + 1 : Nat) : Int) - 1) = (m : Int) := by rw [wr (by omega)]; omega
      have e3 : (st' ++ [a]).getD (Int.toNat (st'.length : Int)) 0 = a := by
        rw [getD_at _ _ _ (by simp)]
        simp
      have e4 : (st' ++ [a]).take st'.length = st' := List.take_left' rfl
      rw [spec_l2Kind_L2_eq]
      simp only [List.length_append, List.length_singleton]
      rw [e1, e2, e3, gT (by omega), gT (by omega), gT (by omega), gT (by omega), gT (by omega), Int.toNat_natCast, e4, List.drop_zero, bind_id,
        show st'.length + 1 - (m + 1) = st'.length - m by omega, List.drop_append_of_le_length (by omega), List.all_append, List.take_append_of_le_length (by omega)]
      by_cases ha : a = part
      · rw [bF (by simp [ha]), ih b st' (by omega) (by omega)]
        simp [ha]
      · rw [bT (by simp [ha])]
        simp [ha]
theorem l2Kind_L0 (wide vars : Int) (t : Bool × List DNode) (ht : t.2.length ≤ 48) (hv : 0 ≤ vars ∧ vars ≤ 4) (hw : ∀ x ∈ t.2, U64 x.2) (d : Nat) : ∀ (i : Nat) (b : Bool) (st : List Int), i + d = t.2.length → st.length ≤ i →
    (kfold wide vars (t.2.drop i) st = none ∧ spec_l2Kind_L0 wide vars (b, st) t (t.2.length : Int) (i : Int) = some (.inl 0)) ∨ ∃ b' s, kfold wide vars (t.2.drop i) st = some s ∧ spec_l2Kind_L0 wide vars (b, st) t (t.2.length : Int) (i : Int) = some (.inr (b', s)) := by
  induction d with
  | zero =>
    intro i b st hi hs
    rw [spec_l2Kind_L0_eq, gF (by omega), List.drop_of_length_le (by omega)]
    exact .inr ⟨b, st, rfl, rfl⟩
  | succ d ih =>
    intro i b st hi hs
    have hlt : i < t.2.length := by omega
    have hx := hw _ (List.getElem_mem hlt)
    have hlim : lim = 1099511627776 := rfl
    rw [spec_l2Kind_L0_eq, gT (by omega), gT (by omega), gT (by omega), getD_at t.2 _ i hlt, l2Need, some_bind, List.drop_eq_getElem_cons hlt]
    simp only [kfold, kstep]
    rw [l2N wide vars _ hv hx]
    by_cases h0 : (need t.2[i].1).2.2 = 0
    · rw [bT (by simp [h0]), if_pos h0]; exact .inl ⟨rfl, rfl⟩
    · rw [bF (by simp [h0]), if_neg h0, some_bind]
      cases hl : leafOk wide vars t.2[i].1 t.2[i].2 with
      | false => exact .inl ⟨rfl, rfl⟩
      | true =>
        rw [bF (by simp), if_pos rfl]
        by_cases hn : (st.length : Int) < (need t.2[i].1).1
        · rw [gT hn, if_pos hn]; exact .inl ⟨rfl, rfl⟩
        · rw [gF hn, if_neg hn]
          obtain ⟨m, hm, hm2⟩ := need_two t.2[i].1
          rw [hm] at hn ⊢
          rw [Int.toNat_natCast, l2Kind_L2 wide vars _ _ _ _ t m b st (by omega) (by omega)]
          by_cases ha : (st.drop (st.length - m)).all (fun y => y == (need t.2[i].1).2.1) = true
          · rw [if_pos ha, if_pos ha]
            simp only [some_bind]
            rw [gT (by simp; omega), up1 i (by omega), bind_id]
            exact ih (i + 1) _ _ (by omega) (by simp; omega)
          · rw [if_neg ha, if_neg ha, some_bind]
            exact .inl ⟨rfl, rfl⟩
theorem l2Kind (wide vars : Int) (t : Bool × List DNode) (hw : ∀ x ∈ t.2, U64 x.2) : spec_l2Kind wide vars t = some (kindT wide vars t.2) := by
  rw [spec_l2Kind_eq, l1Wide_eq, l1In_eq, l1In_eq, some_bind, some_bind, some_bind]
  unfold kindT
  by_cases h1 : 1 ≤ wide ∧ wide ≤ 64
  · by_cases h3 : 1 ≤ vars ∧ vars ≤ 4
    · by_cases h5 : 1 ≤ (t.2.length : Int) ∧ (t.2.length : Int) ≤ 48
      · rw [bF (by simp [h1]), bF (by simp [h3]), bF (by simp; omega), if_pos (by omega)]
        rcases l2Kind_L0 wide vars t (by omega) (by omega) hw t.2.length 0 true [] (by omega) (by simp) with ⟨k1, k2⟩ | ⟨b, s, k1, k2⟩
        · rw [show ((0 : Nat) : Int) = 0 from rfl] at k2
          rw [k2, some_bind]
          rw [List.drop_zero] at k1
          rw [k1]
        · rw [show ((0 : Nat) : Int) = 0 from rfl] at k2
          rw [k2, some_bind]
          rw [List.drop_zero] at k1
          rw [k1]
          match s with
          | [] => simp
          | [a] => simp
          | a :: b :: st =>
            have : (((a :: b :: st).length : Int) != 1) = true := by simp; omega
            simp only
            rw [bT this]
      · rw [bF (by simp [h1]), bF (by simp [h3]), bT (by simp; omega), if_neg (by omega)]
    · rw [bF (by simp [h1]), bT (by simp; omega), if_neg (by omega)]
  · rw [bT (by simp; omega), if_neg (by omega)]
theorem kindT_in {wide vars : Int} {t : List DNode} (h : kindT wide vars t ≠ 0) : 1 ≤ wide ∧ wide ≤ 64 ∧ 1 ≤ vars ∧ vars ≤ 4 ∧ 1 ≤ t.length ∧ t.length ≤ 48 := by
  unfold kindT at h
  split at h
  · assumption
  · exact absurd rfl h
theorem kfold_last (wide vars : Int) : ∀ (xs : List DNode) (st r : List Int), kfold wide vars xs st = some r → ∀ h : xs ≠ [], (∃ r', r = r' ++ [(need (xs.getLast h).1).2.2]) ∧ (need (xs.getLast h).1).2.2 ≠ 0 := by
  intro xs
  induction xs with
  | nil => intro st r _ h; exact absurd rfl h
  | cons x xs ih =>
    intro st r hr h
    simp only [kfold, Option.bind_eq_some_iff] at hr
    obtain ⟨s, h1, h2⟩ := hr
    cases xs with
    | nil =>
      simp only [kfold, Option.some.injEq] at h2
      subst h2
      simp only [List.getLast_singleton]
      unfold kstep at h1
      split at h1
      · simp at h1
      · rename_i hne
        split at h1
        · split at h1
          · simp at h1
          · split at h1
            · simp only [Option.some.injEq] at h1
              exact ⟨⟨_, h1.symm⟩, hne⟩
            · simp at h1
        · simp at h1
    | cons y ys =>
      have := ih s r h2 (by simp)
      rwa [List.getLast_cons (by simp)]
/-- a good term's kind is its last operation's -/
theorem kindT_last {wide vars : Int} {t : List DNode} (h : kindT wide vars t ≠ 0) (hne : t ≠ []) : kfold wide vars t [] = some [kindT wide vars t] ∧ kindT wide vars t = (need (t.getLast hne).1).2.2 := by
  unfold kindT at h ⊢
  split at h
  · rename_i hc
    rw [if_pos hc]
    split at h
    · rename_i a ha
      obtain ⟨⟨r', e⟩, h0⟩ := kfold_last wide vars t [] [a] ha hne
      have hr : r' = [] := by
        have := congrArg List.length e
        simp at this
        exact this
      subst hr
      rw [ha]
      exact ⟨rfl, by simpa using e⟩
    · exact absurd rfl h
  · exact absurd rfl h
theorem contains_kind (b : Bool) (l : List Int) (a : Int) (hl : l.length ≤ 1000) : slices_ContainsFunc_int_by_GoodTerm_1 (b, l) (a, ()) = some (l.any fun y => a != y) := by
  rw [slices_ContainsFunc_int_by_GoodTerm_1_eq, slices_IndexFunc_int_by_GoodTerm_1_eq]
  exact contains_of (loop_find l (fun y => a != y) (fun i => slices_IndexFunc_int_by_GoodTerm_1_L0 (b, l) (a, ()) (l.length : Int) i) (fun i h => by
    rw [slices_IndexFunc_int_by_GoodTerm_1_L0_eq, gT (by omega), gT (by omega), gT (by simp only; omega), getD_at l _ i h, impl_GoodTerm_1_eq, some_bind, up1 i (by omega), bind_id]
    simp only [bne_comm]) (by rw [slices_IndexFunc_int_by_GoodTerm_1_L0_eq, gF (by omega)]))
theorem goodTerm_L0 (wide vars : Int) (t : Bool × List DNode) (ht : t.2.length ≤ 48) (hv : 0 ≤ vars ∧ vars ≤ 4) (d : Nat) : ∀ (i : Nat) (b : Bool) (st : List Int), i + d = t.2.length → st.length ≤ i →
    (kfold wide vars (t.2.drop i) st = none ∧ impl_GoodTerm_L0 wide vars (b, st) t (t.2.length : Int) (i : Int) = some (.inl false)) ∨ ∃ b' s, kfold wide vars (t.2.drop i) st = some s ∧ impl_GoodTerm_L0 wide vars (b, st) t (t.2.length : Int) (i : Int) = some (.inr (b', s)) := by
  induction d with
  | zero =>
    intro i b st hi hs
    rw [impl_GoodTerm_L0_eq, gF (by omega), List.drop_of_length_le (by omega)]
    exact .inr ⟨b, st, rfl, rfl⟩
  | succ d ih =>
    intro i b st hi hs
    have hlt : i < t.2.length := by omega
    obtain ⟨p1, p2, p3⟩ := needI_parts t.2[i].1
    have hlim : lim = 1099511627776 := rfl
    rw [impl_GoodTerm_L0_eq, gT (by omega), gT (by omega), gT (by omega), getD_at t.2 _ i hlt, operandsOf, some_bind, List.drop_eq_getElem_cons hlt, isLeafRight wide vars _ hv, p1, p2]
    simp only [kfold]
    obtain ⟨m, hm, hm2⟩ := need_two t.2[i].1
    rw [hm]
    by_cases h0 : (need t.2[i].1).2.2 = 0
    · rw [bT (by simp [h0])]; exact .inl ⟨by simp [kstep, h0], rfl⟩
    · rw [bF (by simp [h0]), some_bind]
      cases hl : leafOk wide vars t.2[i].1 t.2[i].2 with
      | false => exact .inl ⟨by simp [kstep, hl, h0], rfl⟩
      | true =>
        rw [bF (by simp)]
        by_cases hn : (st.length : Int) < (m : Int)
        · rw [wr (by omega), gT (by omega)]
          exact .inl ⟨by simp [kstep, hl, h0, hm, hn], rfl⟩
        · have e : IntKind.i64.wrap ((st.length : Int) - (m : Int)) = ((st.length - m : Nat) : Int) := by rw [wr (by omega)]; omega
          have ek : kstep wide vars st t.2[i] = if (st.drop (st.length - m)).all (fun y => y == (need t.2[i].1).2.1) = true then some (st.take (st.length - m) ++ [(need t.2[i].1).2.2]) else none := by
            unfold kstep
            rw [if_neg h0, if_pos hl, hm, if_neg hn, Int.toNat_natCast]
          have ea : (st.drop (st.length - m)).any (fun y => (needI t.2[i].1).2.1 != y) = !(st.drop (st.length - m)).all (fun y => y == (need t.2[i].1).2.1) := by
            rcases p3 with p3 | p3
            · have : m = 0 := by omega
              subst this
              simp
            · rw [p3, List.not_all_eq_any_not]
              congr 1
              funext y
              rw [bne, Bool.beq_comm]
          rw [e, gF (by omega), gT (by omega), gT (by omega), Int.toNat_natCast, List.take_length, contains_kind b (st.drop (st.length - m)) _ (by simp; omega), some_bind, ea, ek]
          cases ha : (st.drop (st.length - m)).all (fun y => y == (need t.2[i].1).2.1) with
          | false => exact .inl ⟨rfl, rfl⟩
          | true =>
            rw [bF (by simp), gT (by omega), gT (by omega), gT (by simp; omega), up1 i (by omega), bind_id, if_pos rfl, List.drop_zero]
            simp only [some_bind]
            exact ih (i + 1) _ _ (by omega) (by simp; omega)
theorem isVars_eq (n : Int) : impl_isVars n = some (decide (1 ≤ n ∧ n ≤ 4)) := by
  rw [impl_isVars_eq]
  by_cases h : n ≥ 1
  · rw [gT h]; congr 1; apply decide_eq_decide.mpr; omega
  · rw [gF h]; congr 1; symm; apply decide_eq_false; omega
theorem goodTerm (wide vars : Int) (t : Bool × List DNode) : impl_GoodTerm wide vars t = some (kindT wide vars t.2 != 0) := by
  rw [impl_GoodTerm_eq, isWide_eq, isVars_eq, some_bind, some_bind]
  by_cases h1 : 1 ≤ wide ∧ wide ≤ 64
  · by_cases h3 : 1 ≤ vars ∧ vars ≤ 4
    · by_cases h5 : (t.2.length : Int) < 1
      · rw [bF (by simp [h1]), bF (by simp [h3]), gT h5]
        unfold kindT; rw [if_neg (by omega)]; rfl
      · by_cases h6 : (t.2.length : Int) > 48
        · rw [bF (by simp [h1]), bF (by simp [h3]), gF h5, gT h6]
          unfold kindT; rw [if_neg (by omega)]; rfl
        · rw [bF (by simp [h1]), bF (by simp [h3]), gF h5, gF h6]
          have hc : 1 ≤ wide ∧ wide ≤ 64 ∧ 1 ≤ vars ∧ vars ≤ 4 ∧ 1 ≤ t.2.length ∧ t.2.length ≤ 48 := by omega
          have hne : t.2 ≠ [] := by intro h; rw [h] at h5; simp at h5
          rcases goodTerm_L0 wide vars t (by omega) (by omega) t.2.length 0 false [] (by omega) (by simp) with ⟨k1, k2⟩ | ⟨b, s, k1, k2⟩
          · rw [show ((0 : Nat) : Int) = 0 from rfl] at k2
            rw [k2, some_bind]
            rw [List.drop_zero] at k1
            unfold kindT
            rw [if_pos hc, k1]
            rfl
          · rw [show ((0 : Nat) : Int) = 0 from rfl] at k2
            rw [k2, some_bind]
            rw [List.drop_zero] at k1
            obtain ⟨⟨r', e⟩, hne0⟩ := kfold_last wide vars t.2 [] s k1 hne
            unfold kindT
            rw [if_pos hc, k1]
            match s, e with
            | [], e => rfl
            | [a], e =>
              have hr : r' = [] := by
                have := congrArg List.length e
                simp at this
                exact this
              subst hr
              simp at e
              rw [← e] at hne0
              simp [hne0]
            | a :: b :: c, e =>
              simp
              omega
    · rw [bF (by simp [h1]), bT (by simp; omega)]
      unfold kindT; rw [if_neg (by omega)]; rfl
  · rw [bT (by simp; omega)]
    unfold kindT; rw [if_neg (by omega)]; rfl
theorem isTermOf (wide vars kd : Int) (t : Bool × List DNode) (h0 : kd ≠ 0) : impl_isTermOf wide vars t kd = some (kindT wide vars t.2 == kd) := by
  rw [impl_isTermOf_eq, goodTerm, some_bind]
  by_cases hz : kindT wide vars t.2 = 0
  · rw [bF (by simp [hz]), hz]
    congr 1
    symm
    simp
    omega
  · have hne : t.2 ≠ [] := by
      intro h
      rw [h] at hz
      exact hz (by simp [kindT])
    have hin := kindT_in hz
    rw [bT (by simp [hz]), impl_kindOf_eq, dn1 _ (by omega) (by omega), gT (by omega), gT (by omega), getD_at _ _ _ (by omega), operandsOf, some_bind, some_bind]
    rw [(needI_parts _).2.1, (kindT_last hz hne).2, List.getLast_eq_getElem]
/-- terms of words -/
def WfN (t : List DNode) : Prop := ∀ x ∈ t, U64 x.2
def WfCh (c : DChange) : Prop := WfN c.2.2
def WfCm (c : DCommand) : Prop := WfN c.1.2 ∧ ∀ d ∈ c.2.2, WfCh d
def WfP (p : DProgram) : Prop := WfN p.2.2.1.2 ∧ ∀ c ∈ p.2.2.2.2, WfCm c
theorem WfD_nodes {a : Bool × List DNode} (w : WfD (.sl tyNode) a) : WfN a.2 := fun x hx => WfD_u64 (w.2.2 x hx).2
theorem WfD_prog {p : DProgram} (w : WfD tyProgram p) : WfP p := by
  obtain ⟨_, _, h1, h2⟩ := w
  refine ⟨WfD_nodes h1, fun c hc => ?_⟩
  obtain ⟨h3, h4⟩ := h2.2.2 c hc
  exact ⟨WfD_nodes h3, fun d hd => WfD_nodes (h4.2.2 d hd).2⟩
theorem WfP_cp {p : DProgram} (w : WfP p) : WfP (cpProgram p) := by
  refine ⟨w.1, fun c hc => ?_⟩
  obtain ⟨c0, h1, rfl⟩ := List.mem_map.1 hc
  obtain ⟨q1, q2⟩ := w.2 c0 h1
  refine ⟨q1, fun d hd => ?_⟩
  obtain ⟨d0, h2, rfl⟩ := List.mem_map.1 hd
  exact q2 d0 h2
/-- Are changes right, the variable before them being p? -/
def chgOk (wide vars : Int) : Int → List DChange → Bool
  | _, [] => true
  | p, c :: cs => decide (p < c.1) && decide (c.1 < vars) && (kindT wide vars c.2.2 == 1) && chgOk wide vars c.1 cs
theorem chgOk_len (wide vars : Int) : ∀ (l : List DChange) (p : Int), p < vars → chgOk wide vars p l = true → p + (l.length : Int) < vars := by
  intro l
  induction l with
  | nil => intro p h _; simpa using h
  | cons c cs ih =>
    intro p h hc
    simp only [chgOk, Bool.and_eq_true, decide_eq_true_eq] at hc
    have := ih c.1 hc.1.1.2 hc.2
    simp only [List.length_cons]
    omega
def cmdOk (wide vars : Int) (c : DCommand) : Bool := (kindT wide vars c.1.2 == 2) && chgOk wide vars (-1) c.2.2
/-- The variable of the change before. -/
def before (l : List DChange) (i : Nat) : Int := if i = 0 then -1 else (l.getD (i - 1) (0, (true, []))).1
theorem before_succ (l : List DChange) (i : Nat) (h : i < l.length) : before l (i + 1) = l[i].1 := by
  simp [before, h]
theorem l7Command_L0 (p : DProgram) (c : DCommand) (hl : c.2.2.length ≤ 1048576) (hv : 1 ≤ p.2.1 ∧ p.2.1 ≤ 4) (hw : ∀ d ∈ c.2.2, WfCh d) (d : Nat) : ∀ (i : Nat), i + d = c.2.2.length → -1 ≤ before c.2.2 i →
    spec_l7Command_L0 p c c.2 (c.2.2.length : Int) (i : Int) = some (bif chgOk p.1 p.2.1 (before c.2.2 i) (c.2.2.drop i) then .inr () else .inl false) := by
  induction d with
  | zero =>
    intro i hi hb0
    rw [spec_l7Command_L0_eq, gF (by omega), List.drop_of_length_le (by omega)]
    rfl
  | succ d ih =>
    intro i hi hb0
    have hlt : i < c.2.2.length := by omega
    have hx := hw _ (List.getElem_mem hlt)
    have go := ih (i + 1) (by omega)
    rw [before_succ _ i hlt] at go
    rw [List.drop_eq_getElem_cons hlt, spec_l7Command_L0_eq, gT (by omega), gT (by omega), gT (by omega), getD_at _ _ i hlt, l1In_eq, some_bind, wr (by omega), up1 i (by omega), bind_id, l2Kind p.1 p.2.1 _ hx, some_bind]
    simp only [chgOk]
    by_cases h1 : 0 ≤ c.2.2[i].1 ∧ c.2.2[i].1 ≤ p.2.1 - 1
    · rw [bF (by simp [h1]), go (by omega)]
      have h3 : decide (c.2.2[i].1 < p.2.1) = true := by simp; omega
      rw [h3]
      by_cases hi0 : i = 0
      · subst hi0
        have hb : decide (before c.2.2 0 < c.2.2[0].1) = true := by simp [before]; omega
        rw [gF (by omega), hb]
        by_cases hk1 : kindT p.1 p.2.1 c.2.2[0].2.2 = 1
        · rw [bF (by simp [hk1])]; simp [hk1]
        · rw [bT (by simp [hk1])]; simp [beqF hk1]
      · have hb : before c.2.2 i = c.2.2[i - 1].1 := by
          simp only [before, if_neg hi0]
          rw [List.getD_eq_getElem?_getD]
          simp [show i - 1 < c.2.2.length by omega]
        rw [gT (by omega), dn1 i (by omega) (by omega), gT (by omega), gT (by omega), getD_at _ _ (i - 1) (by omega), hb]
        by_cases h4 : c.2.2[i - 1].1 ≥ c.2.2[i].1
        · have : decide (c.2.2[i - 1].1 < c.2.2[i].1) = false := by simp; omega
          rw [gT h4, this]; rfl
        · have : decide (c.2.2[i - 1].1 < c.2.2[i].1) = true := by simp; omega
          rw [gF h4, this]
          by_cases hk1 : kindT p.1 p.2.1 c.2.2[i].2.2 = 1
          · rw [bF (by simp [hk1])]; simp [hk1]
          · rw [bT (by simp [hk1])]; simp [beqF hk1]
    · rw [bT (by simp; omega)]
      have : (decide (before c.2.2 i < c.2.2[i].1) && decide (c.2.2[i].1 < p.2.1)) = false := by
        rw [← Bool.not_eq_true]
        simp
        omega
      rw [this]; rfl
theorem l7Asks (p : DProgram) (t : Bool × List DNode) (h : WfN t.2) : spec_l7Asks p t = some (kindT p.1 p.2.1 t.2 == 2) := by
  rw [spec_l7Asks_eq, l2Kind p.1 p.2.1 t h, some_bind]
theorem isCondition (p : DProgram) (t : Bool × List DNode) : impl_Program_isCondition p t = some (kindT p.1 p.2.1 t.2 == 2) := by
  rw [impl_Program_isCondition_eq, isTermOf _ _ _ _ (by omega), bind_id]
theorem l7Command (p : DProgram) (c : DCommand) (hl : c.2.2.length ≤ 1048576) (h : WfCm c) : spec_l7Command p c = some (cmdOk p.1 p.2.1 c) := by
  rw [spec_l7Command_eq, l7Asks p _ h.1, some_bind]
  unfold cmdOk
  by_cases h2 : kindT p.1 p.2.1 c.1.2 = 2
  · have hv := kindT_in (by rw [h2]; omega : kindT p.1 p.2.1 c.1.2 ≠ 0)
    rw [bF (by simp [h2]), h2]
    by_cases hn : (c.2.2.length : Int) > p.2.1
    · have : chgOk p.1 p.2.1 (-1) c.2.2 = false := by
        cases hc : chgOk p.1 p.2.1 (-1) c.2.2 with
        | false => rfl
        | true =>
          have := chgOk_len p.1 p.2.1 c.2.2 (-1) (by omega) hc
          omega
      rw [gT hn, this]; rfl
    · have := l7Command_L0 p c hl (by omega) h.2 c.2.2.length 0 (by omega) (by simp [before])
      rw [show ((0 : Nat) : Int) = 0 from rfl, List.drop_zero] at this
      rw [gF hn, this, some_bind]
      simp only [before, if_true]
      cases chgOk p.1 p.2.1 (-1) c.2.2 <;> rfl
  · rw [bT (by simp [h2]), beqF h2]; rfl
theorem isCommand_L0 (p : DProgram) (c : DCommand) (hl : c.2.2.length ≤ 1048576) (d : Nat) : ∀ (i : Nat), i + d = c.2.2.length → -1 ≤ before c.2.2 i →
    impl_Program_isCommand_L0 p c c.2 (c.2.2.length : Int) (i : Int) = some (bif chgOk p.1 p.2.1 (before c.2.2 i) (c.2.2.drop i) then .inr () else .inl false) := by
  induction d with
  | zero =>
    intro i hi hb0
    rw [impl_Program_isCommand_L0_eq, gF (by omega), List.drop_of_length_le (by omega)]
    rfl
  | succ d ih =>
    intro i hi hb0
    have hlt : i < c.2.2.length := by omega
    have go := ih (i + 1) (by omega)
    rw [before_succ _ i hlt] at go
    rw [List.drop_eq_getElem_cons hlt, impl_Program_isCommand_L0_eq, gT (by omega), gT (by omega), gT (by omega), getD_at _ _ i hlt, up1 i (by omega), bind_id, isTermOf _ _ _ _ (by omega), some_bind]
    simp only [chgOk]
    by_cases h1 : c.2.2[i].1 < 0
    · have : decide (before c.2.2 i < c.2.2[i].1) = false := by simp; omega
      rw [gT h1, this]; rfl
    · rw [gF h1, go (by omega)]
      by_cases h2 : c.2.2[i].1 ≥ p.2.1
      · have : decide (c.2.2[i].1 < p.2.1) = false := by simp; omega
        rw [gT h2, this, Bool.and_false]; rfl
      · have h3 : decide (c.2.2[i].1 < p.2.1) = true := by simp; omega
        rw [gF h2, h3]
        by_cases hi0 : i = 0
        · subst hi0
          have hb : decide (before c.2.2 0 < c.2.2[0].1) = true := by simp [before]; omega
          rw [gF (by omega), hb]
          by_cases hk1 : kindT p.1 p.2.1 c.2.2[0].2.2 = 1
          · rw [bF (by simp [hk1])]; simp [hk1]
          · rw [bT (by simp [hk1])]; simp [beqF hk1]
        · have hb : before c.2.2 i = c.2.2[i - 1].1 := by
            simp only [before, if_neg hi0]
            rw [List.getD_eq_getElem?_getD]
            simp [show i - 1 < c.2.2.length by omega]
          rw [gT (by omega), dn1 i (by omega) (by omega), gT (by omega), gT (by omega), getD_at _ _ (i - 1) (by omega), hb]
          by_cases h4 : c.2.2[i - 1].1 ≥ c.2.2[i].1
          · have : decide (c.2.2[i - 1].1 < c.2.2[i].1) = false := by simp; omega
            rw [gT h4, this]; rfl
          · have : decide (c.2.2[i - 1].1 < c.2.2[i].1) = true := by simp; omega
            rw [gF h4, this]
            by_cases hk1 : kindT p.1 p.2.1 c.2.2[i].2.2 = 1
            · rw [bF (by simp [hk1])]; simp [hk1]
            · rw [bT (by simp [hk1])]; simp [beqF hk1]
theorem isCommand (p : DProgram) (c : DCommand) (hl : c.2.2.length ≤ 1048576) : impl_Program_isCommand p c = some (cmdOk p.1 p.2.1 c) := by
  rw [impl_Program_isCommand_eq, isCondition, some_bind]
  unfold cmdOk
  by_cases h2 : kindT p.1 p.2.1 c.1.2 = 2
  · rw [bF (by simp [h2]), h2]
    have := isCommand_L0 p c hl c.2.2.length 0 (by omega) (by simp [before])
    rw [show ((0 : Nat) : Int) = 0 from rfl, List.drop_zero] at this
    rw [this, some_bind]
    simp only [before, if_true]
    cases chgOk p.1 p.2.1 (-1) c.2.2 <;> rfl
  · rw [bT (by simp [h2]), beqF h2]; rfl
def goodProgram (p : DProgram) : Bool := (kindT p.1 p.2.1 p.2.2.1.2 == 2) && (decide (1 ≤ p.2.2.2.2.length ∧ p.2.2.2.2.length ≤ 6) && p.2.2.2.2.all fun c => cmdOk p.1 p.2.1 c)
theorem goodProgram_in {p : DProgram} (h : goodProgram p = true) : 1 ≤ p.1 ∧ p.1 ≤ 64 ∧ 1 ≤ p.2.1 ∧ p.2.1 ≤ 4 := by
  simp only [goodProgram, Bool.and_eq_true, beq_iff_eq] at h
  have := kindT_in (t := p.2.2.1.2) (by rw [h.1]; decide)
  omega
theorem spec_goodProgram (p : DProgram) (hs : SmProgram p) (hw : WfP p) : spec_GoodProgram p = some (goodProgram p) := by
  obtain ⟨_, s2, s3⟩ := hs
  have := loop_all p.2.2.2.2 (fun c => cmdOk p.1 p.2.1 c) (.inr () : Bool ⊕ Unit) (.inl false) (fun i => spec_GoodProgram_L0 p p.2.2.2 (p.2.2.2.2.length : Int) i) (fun i h => by
    rw [spec_GoodProgram_L0_eq, gT (by omega), gT (by omega), gT (by omega), getD_at _ _ i h, l7Command p _ (s3 _ (List.getElem_mem h)).2.1 (hw.2 _ (List.getElem_mem h)), some_bind, up1 i (by omega), bind_id]
    cases cmdOk p.1 p.2.1 p.2.2.2.2[i] <;> rfl) (by
    rw [spec_GoodProgram_L0_eq, gF (by omega)])
  rw [spec_GoodProgram_eq, l7Asks p _ hw.1, some_bind, l1In_eq, some_bind, this]
  unfold goodProgram
  by_cases h2 : kindT p.1 p.2.1 p.2.2.1.2 = 2
  · by_cases h5 : 1 ≤ p.2.2.2.2.length ∧ p.2.2.2.2.length ≤ 6
    · rw [bF (by simp [h2]), bF (by simp; omega), h2]
      simp only [h5, and_self, decide_true, some_bind]
      cases p.2.2.2.2.all fun c => cmdOk p.1 p.2.1 c <;> rfl
    · rw [bF (by simp [h2]), bT (by simp; omega)]
      simp [h5]
  · rw [bT (by simp [h2]), beqF h2]; rfl
theorem contains_command (p : DProgram) (hs : SmProgram p) : slices_ContainsFunc_Command_by_GoodProgram_1 p.2.2.2 (p, ()) = some (p.2.2.2.2.any fun c => !cmdOk p.1 p.2.1 c) := by
  obtain ⟨_, s2, s3⟩ := hs
  rw [slices_ContainsFunc_Command_by_GoodProgram_1_eq, slices_IndexFunc_Command_by_GoodProgram_1_eq]
  exact contains_of (loop_find p.2.2.2.2 (fun c => !cmdOk p.1 p.2.1 c) (fun i => slices_IndexFunc_Command_by_GoodProgram_1_L0 p.2.2.2 (p, ()) (p.2.2.2.2.length : Int) i) (fun i h => by
    rw [slices_IndexFunc_Command_by_GoodProgram_1_L0_eq, gT (by omega), gT (by omega), gT (by omega), getD_at _ _ i h, impl_GoodProgram_1_eq, isCommand p _ (s3 _ (List.getElem_mem h)).2.1, some_bind, some_bind, up1 i (by omega), bind_id]) (by rw [slices_IndexFunc_Command_by_GoodProgram_1_L0_eq, gF (by omega)]))
theorem impl_goodProgram (p : DProgram) (hs : SmProgram p) : impl_GoodProgram p = some (goodProgram p) := by
  rw [impl_GoodProgram_eq, isWide_eq, some_bind, isVars_eq, some_bind, isCondition, some_bind, contains_command p hs, some_bind]
  unfold goodProgram
  by_cases h2 : kindT p.1 p.2.1 p.2.2.1.2 = 2
  · have hin := kindT_in (t := p.2.2.1.2) (by rw [h2]; decide)
    rw [bF (by simp; omega), bF (by simp; omega), bF (by simp [h2]), h2]
    by_cases h3 : (p.2.2.2.2.length : Int) < 1
    · have h5 : ¬ (1 ≤ p.2.2.2.2.length ∧ p.2.2.2.2.length ≤ 6) := by omega
      rw [gT h3]
      simp [h5]
    · by_cases h4 : (p.2.2.2.2.length : Int) > 6
      · have h5 : ¬ (1 ≤ p.2.2.2.2.length ∧ p.2.2.2.2.length ≤ 6) := by omega
        rw [gF h3, gT h4]
        simp [h5]
      · have h5 : 1 ≤ p.2.2.2.2.length ∧ p.2.2.2.2.length ≤ 6 := by omega
        rw [gF h3, gF h4]
        simp [h5, List.not_any_eq_all_not]
  · rw [beqF h2]
    by_cases a1 : 1 ≤ p.1 ∧ p.1 ≤ 64
    · by_cases a2 : 1 ≤ p.2.1 ∧ p.2.1 ≤ 4
      · rw [bF (by simp; omega), bF (by simp; omega), bT (by simp)]; rfl
      · rw [bF (by simp; omega), bT (by simp; omega)]; rfl
    · rw [bT (by simp; omega)]; rfl
def isSmall (p : DProgram) : Bool := goodProgram p && decide (p.1 * p.2.1 ≤ 5)
theorem mul_in {a b : Int} (ha : 1 ≤ a ∧ a ≤ 64) (hb : 1 ≤ b ∧ b ≤ 4) : 1 ≤ a * b ∧ a * b ≤ 256 := by
  have h1 : 1 * 1 ≤ a * b := Int.mul_le_mul ha.1 hb.1 (by omega) (by omega)
  have h2 : a * b ≤ 64 * 4 := Int.mul_le_mul ha.2 hb.2 (by omega) (by omega)
  omega
theorem small_l7 (p : DProgram) (hs : SmProgram p) (hw : WfP p) : spec_l7Small p = some (isSmall p) := by
  rw [spec_l7Small_eq, spec_goodProgram p hs hw, some_bind]
  unfold isSmall
  cases h : goodProgram p with
  | false => rfl
  | true =>
    obtain ⟨a1, a2, a3, a4⟩ := goodProgram_in h
    have := mul_in ⟨a1, a2⟩ ⟨a3, a4⟩
    rw [wr (by omega)]
    rfl
theorem small_impl (p : DProgram) (hs : SmProgram p) : impl_isSmall p = some (isSmall p) := by
  rw [impl_isSmall_eq, impl_goodProgram p hs, some_bind]
  unfold isSmall
  cases h : goodProgram p with
  | false => rfl
  | true =>
    obtain ⟨a1, a2, a3, a4⟩ := goodProgram_in h
    have := mul_in ⟨a1, a2⟩ ⟨a3, a4⟩
    rw [wr (by omega)]
    rfl
/-- what is known of a small program -/
theorem isSmall_in {p : DProgram} (h : isSmall p = true) : goodProgram p = true ∧ 1 ≤ p.1 ∧ p.1 ≤ 5 ∧ 1 ≤ p.2.1 ∧ p.2.1 ≤ 4 ∧ p.1 * p.2.1 ≤ 5 ∧ 1 ≤ p.1 * p.2.1 := by
  simp only [isSmall, Bool.and_eq_true, decide_eq_true_eq] at h
  obtain ⟨a1, a2, a3, a4⟩ := goodProgram_in h.1
  have h1 := mul_in ⟨a1, a2⟩ ⟨a3, a4⟩
  have h2 : p.1 * 1 ≤ p.1 * p.2.1 := Int.mul_le_mul_of_nonneg_left a3 (by omega)
  exact ⟨h.1, a1, by omega, a3, a4, h.2, h1.1⟩
theorem bShr_eq (k : IntKind) (x : Int) (n : Nat) (h : n ≤ k.bits) : bShr k x (n : Int) = x / 2 ^ n := by
  unfold bShr
  rw [show min ((n : Int)).toNat k.bits = n by simp only [Int.toNat_natCast]; omega, Int.fdiv_eq_ediv_of_nonneg _ (Int.le_of_lt (Int.pow_pos (by decide)))]
theorem and_top {wide a : Int} (hw : 1 ≤ wide ∧ wide ≤ 64) (ha : U64 a) : bAnd .u64 a (top wide) = a % (top wide + 1) := by
  obtain ⟨n, rfl⟩ := Int.eq_ofNat_of_zero_le (show 0 ≤ wide by omega)
  obtain ⟨m, rfl⟩ := Int.eq_ofNat_of_zero_le ha.1
  have e : ((2 : Int) ^ n) = ((2 ^ n : Nat) : Int) := by simp
  have hm : m < 2 ^ 64 := by have := ha.2; simp; omega
  have hp := pow_le64 (n := n) (by omega)
  have h0 : 0 < (2 : Nat) ^ n := Nat.two_pow_pos _
  have e2 : top ((n : Nat) : Int) = ((2 ^ n - 1 : Nat) : Int) := by
    simp only [top, Int.toNat_natCast, e]
    omega
  have e3 : top ((n : Nat) : Int) + 1 = ((2 ^ n : Nat) : Int) := by rw [e2]; omega
  rw [e3, e2, bAnd_eq m (2 ^ n - 1) hm (by simp; omega), Nat.and_two_pow_sub_one_eq_mod]
  rfl
/-- Words of a width. -/
def W5 (wide a : Int) : Prop := 0 ≤ a ∧ a ≤ top wide
theorem W5.u64 {wide a : Int} (hw : 1 ≤ wide ∧ wide ≤ 64) (h : W5 wide a) : U64 a := ⟨h.1, by have := h.2; have := top_in hw; omega⟩
/-- what is known of a small program's width and number of variables -/
structure Sml (p : DProgram) : Prop where
  w1 : 1 ≤ p.1
  w2 : p.1 ≤ 5
  v1 : 1 ≤ p.2.1
  v2 : p.2.1 ≤ 4
  a1 : p.1 * p.2.1 ≤ 5
  a2 : 1 ≤ p.1 * p.2.1
theorem Sml_of {p : DProgram} (h : isSmall p = true) : Sml p := by
  obtain ⟨_, h1, h2, h3, h4, h5, h6⟩ := isSmall_in h
  exact ⟨h1, h2, h3, h4, h5, h6⟩
theorem shl_one_i64 (i : Nat) (h : i < 63) : bShl .i64 1 (i : Int) = ((2 ^ i : Nat) : Int) := by
  unfold bShl
  have e : min ((i : Int)).toNat (IntKind.i64.bits) = i := by
    simp only [Int.toNat_natCast, IntKind.bits]
    omega
  rw [e, Int.one_mul]
  have h2 : (2 : Nat) ^ i < 2 ^ 63 := Nat.pow_lt_pow_right (by decide) h
  have h3 : ((2 ^ i : Nat) : Int) < ((2 ^ 63 : Nat) : Int) := by exact_mod_cast h2
  have h4 : (0 : Int) ≤ ((2 ^ i : Nat) : Int) := Int.natCast_nonneg _
  rw [wr]
  · simp
  · simp at h4 h3; omega
/-- the number of states -/
def manyS (p : DProgram) : Nat := 2 ^ (p.1 * p.2.1).toNat
theorem manyS_in {p : DProgram} (hp : Sml p) : 2 ≤ manyS p ∧ manyS p ≤ 32 := by
  have h1 := hp.a1
  have h2 := hp.a2
  unfold manyS
  have h3 : (2 : Nat) ^ 1 ≤ 2 ^ (p.1 * p.2.1).toNat := Nat.pow_le_pow_right (by decide) (by omega)
  have h4 : (2 : Nat) ^ (p.1 * p.2.1).toNat ≤ 2 ^ 5 := Nat.pow_le_pow_right (by decide) (by omega)
  simp at h3 h4
  omega
theorem l7Many {p : DProgram} (hp : Sml p) : spec_l7Many p = some (manyS p : Int) := by
  have h1 := hp.a1
  have h2 := hp.a2
  obtain ⟨n, hn⟩ := Int.eq_ofNat_of_zero_le (show 0 ≤ p.1 * p.2.1 by omega)
  rw [spec_l7Many_eq, manyS, hn]
  rw [hn] at h1
  rw [wr (by omega), wru (by omega), gF (by omega), shl_one_i64 n (by omega), Int.toNat_natCast]
theorem states_many {p : DProgram} (hp : Sml p) : impl_Program_states p = some (manyS p : Int) := by
  have h1 := hp.a1
  have h2 := hp.a2
  obtain ⟨n, hn⟩ := Int.eq_ofNat_of_zero_le (show 0 ≤ p.1 * p.2.1 by omega)
  rw [impl_Program_states_eq, manyS, hn]
  rw [hn] at h1
  rw [wr (by omega), gF (by omega), shl_one_i64 n (by omega), Int.toNat_natCast]
theorem all_loop {α : Type} (l : List α) (q : α → Bool) (F : Int → Option (Bool ⊕ Unit))
    (hs : ∀ (i : Nat) (h : i < l.length), F (i : Int) = bif !q l[i] then some (.inl false) else F ((i + 1 : Nat) : Int)) (he : F (l.length : Int) = some (.inr ())) : F 0 = some (if l.all q = true then .inr () else .inl false) := by
  have := loop_all l q (β := Bool ⊕ Unit) (.inr ()) (.inl false) F (fun i h => by rw [hs i h]; cases q l[i] <;> rfl) he
  rw [this]
  cases l.all q <;> rfl
theorem growInt (n : Nat) (h : n ≤ 1099511627776) : ∃ b, slices_Grow_int (n : Int) = some (b, []) := by
  have hlim := lim_eq
  have e : IntKind.i64.wrap ((n : Int) - IntKind.i64.wrap (0 - 0)) = (n : Int) := by
    rw [show IntKind.i64.wrap (0 - 0) = 0 from wr (by omega), wr (by omega)]
    omega
  rw [slices_Grow_int_eq, e, gF (by omega)]
  by_cases h0 : n = 0
  · rw [gF (by omega)]
    exact ⟨_, rfl⟩
  · rw [gT (by omega), gT (by omega), gT (by omega), gT (by simp; omega), gT (by omega)]
    exact ⟨_, rfl⟩
theorem concatInt_L0 (s l : Bool × List (Bool × List Int)) (d : Nat) : ∀ (i k : Nat), i + d = l.2.length → k + ((l.2.drop i).map fun x => x.2.length).sum ≤ 1099511627776 → l.2.length ≤ 1099511627776 →
    slices_Concat_int_L0 s (k : Int) l (l.2.length : Int) (i : Int) = some ((k + ((l.2.drop i).map fun x => x.2.length).sum : Nat) : Int) := by
  induction d with
  | zero =>
    intro i k hi hk hl
    rw [slices_Concat_int_L0_eq, gF (by omega), List.drop_of_length_le (by omega)]
    rfl
  | succ d ih =>
    intro i k hi hk hl
    have hlt : i < l.2.length := by omega
    rw [List.drop_eq_getElem_cons hlt] at hk ⊢
    simp only [List.map_cons, List.sum_cons] at hk ⊢
    rw [slices_Concat_int_L0_eq, gT (by omega), gT (by omega), gT (by omega), getD_at l.2 _ i hlt, show (k : Int) + (l.2[i].2.length : Int) = ((k + l.2[i].2.length : Nat) : Int) by omega, wr (by omega), gF (by omega), up1 i (by omega), bind_id, ih (i + 1) _ (by omega) (by omega) hl]
    congr 2
    omega
theorem concatInt_L2 (l : Bool × List (Bool × List Int)) (d : Nat) : ∀ (i : Nat) (b : Bool) (out : List Int), i + d = l.2.length → out.length + ((l.2.drop i).map fun x => x.2.length).sum ≤ 1099511627776 → l.2.length ≤ 1099511627776 →
    ∃ b', slices_Concat_int_L2 (b, out) l (l.2.length : Int) (i : Int) = some (b', out ++ ((l.2.drop i).map fun x => x.2).flatten) := by
  have hlim := lim_eq
  induction d with
  | zero =>
    intro i b out hi hk hl
    rw [slices_Concat_int_L2_eq, gF (by omega), List.drop_of_length_le (by omega)]
    exact ⟨b, by simp⟩
  | succ d ih =>
    intro i b out hi hk hl
    have hlt : i < l.2.length := by omega
    rw [List.drop_eq_getElem_cons hlt] at hk ⊢
    simp only [List.map_cons, List.sum_cons, List.flatten_cons] at hk ⊢
    rw [slices_Concat_int_L2_eq, gT (by omega), gT (by omega), gT (by omega), getD_at l.2 _ i hlt, gT (by simp only; omega), up1 i (by omega), bind_id]
    obtain ⟨b', g⟩ := ih (i + 1) (b && l.2[i].2.isEmpty) (out ++ l.2[i].2) (by omega) (by rw [List.length_append]; omega) hl
    exact ⟨b', by rw [g]; simp⟩
theorem concatInt (l : Bool × List (Bool × List Int)) (h : (l.2.map fun x => x.2.length).sum ≤ 1099511627776) (hl : l.2.length ≤ 1099511627776) : ∃ b, slices_Concat_int l = some (b, (l.2.map fun x => x.2).flatten) := by
  have h0 := concatInt_L0 l l l.2.length 0 0 (by omega) (by simpa using h) hl
  rw [List.drop_zero, Nat.zero_add] at h0
  have h0' : slices_Concat_int_L0 l 0 l (l.2.length : Int) 0 = _ := h0
  obtain ⟨b1, h1⟩ := growInt _ h
  obtain ⟨b2, h2⟩ := concatInt_L2 l l.2.length 0 b1 [] (by omega) (by simpa using h) hl
  rw [List.drop_zero, List.nil_append] at h2
  have h2' : slices_Concat_int_L2 (b1, []) l (l.2.length : Int) 0 = _ := h2
  exact ⟨b2, by rw [slices_Concat_int_eq, h0', some_bind, h1, some_bind, h2', some_bind]⟩
/-- Are the classes of a list numbered in the order of their first states? -/
def sightL : Int → List Int → Bool
  | _, [] => true
  | c, x :: l => decide (0 ≤ x ∧ x ≤ c) && sightL (if x = c then c + 1 else c) l
/-- Is a view of a program's states good? -/
def goodSight (p : DProgram) (v : List Int) : Bool := isSmall p && (decide ((v.length : Int) = manyS p) && sightL 0 v)
theorem sightL_in (l : List Int) : ∀ c : Int, sightL c l = true → ∀ x ∈ l, 0 ≤ x ∧ x ≤ c + l.length := by
  induction l with
  | nil => intro c _ x hx; simp at hx
  | cons y l ih =>
    intro c h x hx
    simp only [sightL, Bool.and_eq_true, decide_eq_true_eq] at h
    simp only [List.length_cons]
    rcases List.mem_cons.1 hx with rfl | hx
    · omega
    · have := ih _ h.2 x hx
      split at this <;> omega
theorem goodSight_L0 (v : DSight) (hl : v.2.length ≤ 1048576) (d : Nat) : ∀ (i : Nat) (c : Int), i + d = v.2.length → 0 ≤ c → c ≤ i → spec_GoodSight_L0 c v (v.2.length : Int) (i : Int) = some (bif sightL c (v.2.drop i) then .inr () else .inl false) := by
  induction d with
  | zero =>
    intro i c hi h0 hc
    rw [spec_GoodSight_L0_eq, gF (by omega), List.drop_of_length_le (by omega)]
    rfl
  | succ d ih =>
    intro i c hi h0 hc
    have hlt : i < v.2.length := by omega
    rw [spec_GoodSight_L0_eq, gT (by omega), gT (by omega), gT (by omega), getD_at v.2 _ i hlt, l1In_eq, some_bind, up1 i (by omega), bind_id, bind_id, List.drop_eq_getElem_cons hlt, sightL]
    by_cases c1 : 0 ≤ v.2[i] ∧ v.2[i] ≤ c
    · rw [decide_eq_true c1, Bool.not_true, cond_false, Bool.true_and]
      by_cases c2 : v.2[i] = c
      · rw [bT (by simpa using c2), if_pos c2, wr (by omega), ih (i + 1) _ (by omega) (by omega) (by omega)]
      · rw [bF (beqF c2), if_neg c2, ih (i + 1) _ (by omega) (by omega) (by omega)]
    · rw [decide_eq_false c1]
      rfl
theorem isSight_L0 (n : Int) (v : DSight) (hl : v.2.length ≤ 1048576) (d : Nat) : ∀ (i : Nat) (c : Int), i + d = v.2.length → 0 ≤ c → c ≤ i → impl_isSight_L0 n v c v (v.2.length : Int) (i : Int) = some (bif sightL c (v.2.drop i) then .inr () else .inl false) := by
  induction d with
  | zero =>
    intro i c hi h0 hc
    rw [impl_isSight_L0_eq, gF (by omega), List.drop_of_length_le (by omega)]
    rfl
  | succ d ih =>
    intro i c hi h0 hc
    have hlt : i < v.2.length := by omega
    rw [impl_isSight_L0_eq, gT (by omega), gT (by omega), gT (by omega), getD_at v.2 _ i hlt, up1 i (by omega), bind_id, bind_id, List.drop_eq_getElem_cons hlt, sightL]
    by_cases c3 : v.2[i] < 0
    · rw [gT c3, decide_eq_false (by omega)]
      rfl
    · rw [gF c3]
      by_cases c4 : v.2[i] > c
      · rw [gT c4, decide_eq_false (by omega)]
        rfl
      · rw [gF c4, decide_eq_true (by omega), Bool.true_and]
        by_cases c2 : v.2[i] = c
        · rw [bT (by simpa using c2), if_pos c2, wr (by omega), ih (i + 1) _ (by omega) (by omega) (by omega)]
        · rw [bF (beqF c2), if_neg c2, ih (i + 1) _ (by omega) (by omega) (by omega)]
theorem spec_goodSight (p : DProgram) (hs : SmProgram p) (hw : WfP p) (v : DSight) (hl : v.2.length ≤ 1048576) : spec_GoodSight p v = some (goodSight p v.2) := by
  rw [spec_GoodSight_eq, small_l7 p hs hw, some_bind, goodSight]
  cases h0 : isSmall p with
  | false => rfl
  | true =>
    have hp := Sml_of h0
    rw [Bool.not_true, cond_false, l7Many hp, some_bind, Bool.true_and]
    by_cases c1 : (v.2.length : Int) = manyS p
    · have h := goodSight_L0 v hl v.2.length 0 0 (by omega) (by omega) (by omega)
      have h' : spec_GoodSight_L0 0 v (v.2.length : Int) 0 = _ := h
      rw [bF (by simp [c1]), h', some_bind, decide_eq_true c1, Bool.true_and, List.drop_zero]
      cases sightL 0 v.2 <;> rfl
    · rw [bT (by simpa using c1), decide_eq_false c1, Bool.false_and]
theorem impl_goodSight (p : DProgram) (hs : SmProgram p) (v : DSight) (hl : v.2.length ≤ 1048576) : impl_GoodSight p v = some (goodSight p v.2) := by
  rw [impl_GoodSight_eq, small_impl p hs, some_bind, goodSight]
  cases h0 : isSmall p with
  | false => rfl
  | true =>
    have hp := Sml_of h0
    have h := isSight_L0 (manyS p) v hl v.2.length 0 0 (by omega) (by omega) (by omega)
    have h' : impl_isSight_L0 (manyS p) v 0 v (v.2.length : Int) 0 = _ := h
    rw [cond_true, states_many hp, some_bind, impl_isSight_eq, h', some_bind, Bool.true_and, List.drop_zero]
    cases sightL 0 v.2 with
    | false => rw [Bool.and_false]; rfl
    | true => rw [Bool.and_true]; rfl
theorem goodSight_in {p : DProgram} {v : List Int} (h : goodSight p v = true) : Sml p ∧ v.length = manyS p ∧ ∀ x ∈ v, 0 ≤ x ∧ x ≤ 32 := by
  simp only [goodSight, Bool.and_eq_true, decide_eq_true_eq] at h
  have hp := Sml_of h.1
  have hm := manyS_in hp
  exact ⟨hp, by omega, fun x hx => by have := sightL_in v 0 h.2.2 x hx; omega⟩
theorem l1All (l : Bool × List Int) (lo hi : Int) (hl : l.2.length ≤ 1048576) : spec_l1All l lo hi = some (l.2.all fun x => decide (lo ≤ x ∧ x ≤ hi)) := by
  rw [spec_l1All_eq, all_loop l.2 (fun x => decide (lo ≤ x ∧ x ≤ hi)) (fun i => spec_l1All_L0 lo hi l (l.2.length : Int) i) (fun i h => by
    rw [spec_l1All_L0_eq, gT (by omega), gT (by omega), gT (by omega), getD_at l.2 _ i h, up1 i (by omega), bind_id, l1In_eq, some_bind]) (by rw [spec_l1All_L0_eq, gF (by omega)]), some_bind]
  cases (l.2.all fun x => decide (lo ≤ x ∧ x ≤ hi)) <;> rfl
/-- the number of classes of a view -/
def manyC (v : List Int) : Int := v.foldl (fun m x => if x ≥ m then x + 1 else m) 0
theorem manyC_max (l : List Int) : ∀ m : Int, l.foldl (fun m x => if x ≥ m then x + 1 else m) (m + 1) = l.foldl (fun m x => if m < x then x else m) m + 1 := by
  induction l with
  | nil => intro m; rfl
  | cons x l ih =>
    intro m
    simp only [List.foldl_cons]
    by_cases h : m < x
    · rw [if_pos (by omega), if_pos h, ih x]
    · rw [if_neg (by omega), if_neg h, ih m]
theorem l15Many (v : DSight) (hl : v.2.length ≤ 1048576) (hin : ∀ x ∈ v.2, 0 ≤ x ∧ x ≤ 32) : spec_l15Many v = some (manyC v.2) := by
  have := loop_fold v.2 (fun m x => if x ≥ m then x + 1 else m) (fun m : Int => m) (fun m i => spec_l15Many_L0 m v (v.2.length : Int) i) (fun _ _ => True) (fun i h s _ => by
    have hx := hin _ (List.getElem_mem h)
    refine ⟨?_, trivial⟩
    rw [spec_l15Many_L0_eq, gT (by omega), gT (by omega), gT (by omega), getD_at v.2 _ i h, up1 i (by omega), bind_id, bind_id, wr (by omega)]
    by_cases c : v.2[i] ≥ s
    · rw [gT c, if_pos c]
    · rw [gF c, if_neg c]) (fun s _ => by rw [spec_l15Many_L0_eq, gF (by omega)]) 0 trivial
  rw [spec_l15Many_eq, this, some_bind, manyC]
theorem sightClasses (v : DSight) (hl : v.2.length ≤ 1048576) (h0 : 0 < v.2.length) (hin : ∀ x ∈ v.2, 0 ≤ x ∧ x ≤ 32) : impl_Sight_classes v = some (manyC v.2) := by
  obtain ⟨b, w⟩ := v
  match w, h0 with
  | x :: w, _ =>
    have key : ∀ (d i : Nat) (m : Int), i + d = (x :: w).length → 0 ≤ m → m ≤ 32 → ∃ r, slices_Max_int_L0 (b, x :: w) m (i : Int) = some r ∧ r = ((x :: w).drop i).foldl (fun m x => if m < x then x else m) m ∧ 0 ≤ r ∧ r ≤ 32 := by
      intro d
      induction d with
      | zero =>
        intro i m hi h0 h1
        rw [slices_Max_int_L0_eq, gF (by simp only; omega), List.drop_of_length_le (by omega)]
        exact ⟨m, rfl, rfl, h0, h1⟩
      | succ d ih =>
        intro i m hi h0 h1
        have hlt : i < (x :: w).length := by omega
        have hx := hin _ (List.getElem_mem hlt)
        rw [slices_Max_int_L0_eq, gT (by simp only; omega), gT (by omega), gT (by simp only; omega), getD_at (x :: w) _ i hlt, up1 i (by simp only at hl; omega), bind_id, List.drop_eq_getElem_cons hlt, List.foldl_cons]
        by_cases c : m < (x :: w)[i]
        · rw [decide_eq_true c, cond_true, if_pos c]
          exact ih (i + 1) _ (by omega) (by omega) (by omega)
        · rw [decide_eq_false c, cond_false, if_neg c]
          exact ih (i + 1) _ (by omega) (by omega) (by omega)
    have hx := hin x List.mem_cons_self
    obtain ⟨r, e, e2, r0, r1⟩ := key w.length 1 x (by simp; omega) hx.1 hx.2
    have e' : slices_Max_int_L0 (b, x :: w) ((x :: w).getD 0 0) 1 = some r := e
    rw [impl_Sight_classes_eq, slices_Max_int_eq, gF (by simp only [List.length_cons]; omega), gT (by simp only [List.length_cons]; omega), e', some_bind, some_bind, wr (by omega), manyC, List.foldl_cons, if_pos hx.1, manyC_max, e2]
    rfl
theorem manyC_in (v : List Int) (hin : ∀ x ∈ v, 0 ≤ x ∧ x ≤ 32) : 0 ≤ manyC v ∧ manyC v ≤ 33 := by
  have key : ∀ (l : List Int) (m : Int), (∀ x ∈ l, 0 ≤ x ∧ x ≤ 32) → 0 ≤ m → m ≤ 33 → 0 ≤ l.foldl (fun m x => if x ≥ m then x + 1 else m) m ∧ l.foldl (fun m x => if x ≥ m then x + 1 else m) m ≤ 33 := by
    intro l
    induction l with
    | nil => intro m _ h0 h1; exact ⟨h0, h1⟩
    | cons x l ih =>
      intro m hx h0 h1
      have h2 := hx x List.mem_cons_self
      rw [List.foldl_cons]
      refine ih _ (fun y hy => hx y (List.mem_cons_of_mem _ hy)) ?_ ?_ <;> split <;> omega
  exact key v 0 hin (by omega) (by omega)
theorem top32 : top 32 = 4294967295 := by decide
theorem mulWords {x y : Int} (hx : 0 ≤ x ∧ x < 65536) (hy : 0 ≤ y ∧ y < 65536) : bits_Mul x y = some (0, x * y) := by
  have a1 : bShr .u64 x 32 = 0 := by rw [show (32 : Int) = ((32 : Nat) : Int) from rfl, bShr_eq .u64 x 32 (by decide)]; exact Int.ediv_eq_zero_of_lt hx.1 (by omega)
  have a2 : bShr .u64 y 32 = 0 := by rw [show (32 : Int) = ((32 : Nat) : Int) from rfl, bShr_eq .u64 y 32 (by decide)]; exact Int.ediv_eq_zero_of_lt hy.1 (by omega)
  have b1 : bAnd .u64 x 4294967295 = x := by rw [← top32, and_top (by omega) ⟨hx.1, by omega⟩, top32, Int.emod_eq_of_lt hx.1 (by omega)]
  have b2 : bAnd .u64 y 4294967295 = y := by rw [← top32, and_top (by omega) ⟨hy.1, by omega⟩, top32, Int.emod_eq_of_lt hy.1 (by omega)]
  have h0 : 0 ≤ x * y := Int.mul_nonneg hx.1 hy.1
  have h1 : x * y < 65536 * 65536 := by
    have := Int.mul_le_mul (show x ≤ 65535 by omega) (show y ≤ 65535 by omega) hy.1 (by omega)
    omega
  have w0 : IntKind.u64.wrap 0 = 0 := wru (by omega)
  have w1 : IntKind.u64.wrap (x * y) = x * y := wru (by omega)
  have s1 : bShr .u64 (x * y) 32 = 0 := by rw [show (32 : Int) = ((32 : Nat) : Int) from rfl, bShr_eq .u64 _ 32 (by decide)]; exact Int.ediv_eq_zero_of_lt h0 (by omega)
  have s0 : bShr .u64 0 32 = 0 := by decide
  have c0 : bAnd .u64 0 4294967295 = 0 := by decide
  rw [bits_Mul_eq, bits_Mul64_eq, a1, a2, b1, b2, w1, s1]
  simp only [Int.zero_mul, Int.mul_zero, Int.add_zero, w0, s0, c0, some_bind]
theorem rep_add {α : Type} (a b : Nat) (x : α) : List.replicate (a + b) x = List.replicate a x ++ List.replicate b x := by
  rw [List.replicate_append_replicate]
theorem flat_take (l : List Int) (m j : Nat) (h : j ≤ m) : (List.replicate m l).flatten.take (j * l.length) = (List.replicate j l).flatten := by
  obtain ⟨d, rfl⟩ := Nat.exists_eq_add_of_le h
  rw [rep_add, List.flatten_append, List.take_left']
  simp
theorem repeat_L0 (l : List Int) (c : Nat) (hl : 0 < l.length) (hc : c * l.length ≤ 1048576) (d : Nat) : ∀ (m : Nat) (b : Bool) (rest : List Int), m + d = c → 1 ≤ m → rest.length = d * l.length →
    slices_Repeat_int_L0 (b, (List.replicate m l).flatten ++ rest) ((m * l.length : Nat) : Int) = some (b, (List.replicate c l).flatten) := by
  induction d using Nat.strongRecOn with
  | _ d ih =>
    intro m b rest hm h1 hr
    have e0 : ((List.replicate m l).flatten).length = m * l.length := by simp
    have e1 : ((List.replicate m l).flatten ++ rest).length = c * l.length := by rw [List.length_append, e0, hr, ← hm, Nat.add_mul]
    rw [slices_Repeat_int_L0_eq]
    simp only [e1]
    by_cases hd : d = 0
    · subst hd
      have : rest = [] := List.eq_nil_of_length_eq_zero (by simpa using hr)
      subst this
      obtain rfl : m = c := by omega
      rw [gF (by omega), List.append_nil]
    · have hlt : m * l.length < c * l.length := (Nat.mul_lt_mul_right hl).2 (by omega)
      rw [gT (by omega), gT (by omega), gT (by omega), gT (by omega), gT (by omega), bind_id, Int.toNat_natCast, List.take_left' e0, List.drop_zero, e0]
      have hsub : c * l.length - m * l.length = d * l.length := by rw [← Nat.sub_mul]; congr 1; omega
      have hmin : min (m * l.length) (d * l.length) = (min m d) * l.length := by
        rcases Nat.le_total m d with h | h
        · rw [Nat.min_eq_left h, Nat.min_eq_left (Nat.mul_le_mul_right _ h)]
        · rw [Nat.min_eq_right h, Nat.min_eq_right (Nat.mul_le_mul_right _ h)]
      have htake : ((List.replicate m l).flatten).take (d * l.length) = (List.replicate (min m d) l).flatten := by
        rcases Nat.le_total m d with h | h
        · rw [Nat.min_eq_left h, List.take_of_length_le (by rw [e0]; exact Nat.mul_le_mul_right _ h)]
        · rw [Nat.min_eq_right h, flat_take l m d h]
      rw [hsub, hmin, htake, ← List.append_assoc, ← List.flatten_append, ← rep_add, List.drop_append, List.drop_of_length_le (by rw [e0]; exact Nat.le_add_right _ _), List.nil_append, e0, show m * l.length + min m d * l.length - m * l.length = min m d * l.length by omega]
      have hadd : m * l.length + min m d * l.length = (m + min m d) * l.length := by rw [Nat.add_mul]
      have hle : (m + min m d) * l.length ≤ c * l.length := Nat.mul_le_mul_right _ (by omega)
      rw [wr (by omega), show ((m * l.length : Nat) : Int) + ((min m d * l.length : Nat) : Int) = (((m + min m d) * l.length : Nat) : Int) by rw [← hadd]; omega]
      exact ih (d - min m d) (by omega) (m + min m d) b (rest.drop (min m d * l.length)) (by omega) (by omega) (by rw [List.length_drop, hr, ← Nat.sub_mul])
theorem repeatInts (l : Bool × List Int) (c : Nat) (hl : 0 < l.2.length) (hl2 : l.2.length ≤ 1000) (h1 : 1 ≤ c) (hc : c ≤ 1000) : slices_Repeat_int l (c : Int) = some (false, (List.replicate c l.2).flatten) := by
  have hlim := lim_eq
  have hm : c * l.2.length ≤ 1000 * 1000 := Nat.mul_le_mul hc hl2
  have hmul : (l.2.length : Int) * (c : Int) = ((c * l.2.length : Nat) : Int) := by rw [Int.natCast_mul, Int.mul_comm]
  have e := repeat_L0 l.2 c hl (by omega) (c - 1) 1 false ((List.replicate (c * l.2.length) (0 : Int)).drop l.2.length) (by omega) (by omega) (by
    rw [List.length_drop, List.length_replicate, Nat.sub_mul, Nat.one_mul])
  have hle : l.2.length ≤ c * l.2.length := by
    have := Nat.mul_le_mul_right l.2.length h1
    omega
  have e1 : l.2.take (List.replicate (c * l.2.length) (0 : Int)).length = l.2 := by rw [List.length_replicate, List.take_of_length_le hle]
  have e2 : min l.2.length (List.replicate (c * l.2.length) (0 : Int)).length = l.2.length := by rw [List.length_replicate]; omega
  rw [slices_Repeat_int_eq, gF (by omega), wru (by omega), wru (by omega), mulWords (by omega) (by omega), some_bind]
  simp only [hmul]
  rw [gF (by omega), gF (by omega), wr (by omega), gT (by omega), gT (by omega), gT (by omega), gT (by omega), Int.toNat_natCast, e1, e2]
  have e' : slices_Repeat_int_L0 (false, l.2 ++ (List.replicate (c * l.2.length) (0 : Int)).drop l.2.length) (l.2.length : Int) = some (false, (List.replicate c l.2).flatten) := by
    simpa using e
  rw [e', some_bind]
theorem szSight (a : DSight) (left : Int) (h0 : 0 ≤ left ∧ left ≤ 1048576) (hl : a.2.length ≤ big) : laws_szSight a left = some (if (a.2.length : Int) ≤ left then left - a.2.length else -1) := by
  rw [laws_szSight_eq, szIntS a left h0 hl, some_bind]
  by_cases h : (a.2.length : Int) ≤ left
  · rw [if_pos h, gF (by omega)]
  · rw [if_neg h, gT (by omega)]
theorem toSight (a : DSight) (hl : a.2.length ≤ 1048576) : laws_toSight a = some (false, a.2) := by
  rw [laws_toSight_eq, toIntS a hl, some_bind]
theorem eqSight_same (f g : Bool) (l : List Int) (hl : l.length ≤ 1048576) : laws_eqSight (f, l) (g, l) = some true := by
  rw [laws_eqSight_eq, eqIntS_same f g l hl]
  rfl
theorem markSight (b : Bool) (x : List Int) (k : Int) (hl : x.length ≤ 1048576) (h0 : 0 ≤ k) (hk : k + x.length ≤ 4000000000000000000) : laws_markSight (b, x) k = some ((b, countL k x.length), k + x.length) := by
  rw [laws_markSight_eq, markIntS b x k hl h0 hk, some_bind]
theorem l19Classes (v : DSight) (hv : v.2.length ≤ 1048576) (hin : ∀ x ∈ v.2, 0 ≤ x ∧ x ≤ 32) (l : Bool × List Int) (hl : l.2.length ≤ 1048576) : spec_l19Classes v l = some (l.2.all fun x => decide (0 ≤ x ∧ x ≤ manyC v.2 - 1)) := by
  have := manyC_in v.2 hin
  rw [spec_l19Classes_eq, l15Many v hv hin, some_bind, wr (by omega), l1All l _ _ hl, some_bind]
theorem contains_class (l : Bool × List Int) (m : Int) (hl : l.2.length ≤ 1048576) : slices_ContainsFunc_int_by_isClassPath_1 l (m, ()) = some (l.2.any fun x => !decide (0 ≤ x ∧ x ≤ m - 1)) := by
  have h := loop_find l.2 (fun x => !decide (0 ≤ x ∧ x ≤ m - 1)) (fun i => slices_IndexFunc_int_by_isClassPath_1_L0 l (m, ()) (l.2.length : Int) i) (fun i h => by
    rw [slices_IndexFunc_int_by_isClassPath_1_L0_eq, gT (by omega), gT (by omega), gT (by omega), getD_at l.2 _ i h, impl_isClassPath_1_eq, up1 i (by omega), bind_id]
    by_cases c1 : l.2[i] < 0
    · rw [gT c1, some_bind, decide_eq_false (by omega)]; rfl
    · rw [gF c1, some_bind]
      by_cases c2 : l.2[i] ≥ m
      · rw [decide_eq_true c2, decide_eq_false (by omega)]; rfl
      · rw [decide_eq_false c2, decide_eq_true (by omega)]; rfl) (by rw [slices_IndexFunc_int_by_isClassPath_1_L0_eq, gF (by omega)])
  rw [slices_ContainsFunc_int_by_isClassPath_1_eq, slices_IndexFunc_int_by_isClassPath_1_eq]
  exact contains_of h
/-- Is a list of classes a path of a view? -/
def classPath (p : DProgram) (v l : List Int) (most : Int) : Bool := goodSight p v && (decide (1 ≤ (l.length : Int) ∧ (l.length : Int) ≤ most) && l.all fun x => decide (0 ≤ x ∧ x ≤ manyC v - 1))
theorem isClassPath (p : DProgram) (hs : SmProgram p) (v : DSight) (hv : v.2.length ≤ 1048576) (l : Bool × List Int) (hl : l.2.length ≤ 1048576) (most : Int) : impl_isClassPath p v l most = some (classPath p v.2 l.2 most) := by
  rw [impl_isClassPath_eq, impl_goodSight p hs v hv, some_bind, classPath]
  cases h0 : goodSight p v.2 with
  | false => rfl
  | true =>
    obtain ⟨hp, hv2, hvi⟩ := goodSight_in h0
    have hm := manyS_in hp
    rw [Bool.not_true, cond_false, Bool.true_and]
    by_cases c1 : (l.2.length : Int) < 1
    · rw [gT c1, decide_eq_false (by omega), Bool.false_and]
    · by_cases c2 : (l.2.length : Int) > most
      · rw [gF c1, gT c2, decide_eq_false (by omega), Bool.false_and]
      · rw [gF c1, gF c2, sightClasses v hv (by omega) hvi, some_bind, contains_class l _ hl, some_bind, decide_eq_true (by omega), Bool.true_and, List.all_eq_not_any_not]
theorem spec_round_L0 {p : DProgram} (hp : Sml p) (loop : Bool × List Int) (hl : loop.2.length ≤ 60) (d : Nat) : ∀ (i : Nat) (b : Bool) (out : List Int), i + d = manyS p + 1 → out.length ≤ 60 + 60 * i →
    ∃ b', spec_l19Round_L0 loop p (b, out) (i : Int) = some (b', out ++ (List.replicate d loop.2).flatten) := by
  have hm := manyS_in hp
  have hlim := lim_eq
  induction d with
  | zero =>
    intro i b out hi ho
    rw [spec_l19Round_L0_eq, l7Many hp, some_bind, gF (by omega)]
    exact ⟨b, by simp⟩
  | succ d ih =>
    intro i b out hi ho
    obtain ⟨b', g⟩ := ih (i + 1) (b && loop.2.isEmpty) (out ++ loop.2) (by omega) (by rw [List.length_append]; omega)
    rw [spec_l19Round_L0_eq, l7Many hp, some_bind, gT (by omega), gT (by simp only; omega), up1 i (by omega), bind_id, g]
    exact ⟨b', by rw [List.replicate_succ, List.flatten_cons, List.append_assoc]⟩
/-- a lasso's way, with its round as often as it takes to come by twice at one state -/
def roundL (p : DProgram) (stem loop : List Int) : List Int := stem ++ (List.replicate (manyS p + 1) loop).flatten
theorem roundL_length {p : DProgram} (hp : Sml p) (stem loop : List Int) (h1 : stem.length ≤ 60) (h2 : loop.length ≤ 60) : (roundL p stem loop).length ≤ 2040 := by
  have hm := manyS_in hp
  have h3 : (manyS p + 1) * loop.length ≤ 33 * 60 := Nat.mul_le_mul (by omega) h2
  simp only [roundL, List.length_append, List.length_flatten, List.map_replicate, List.sum_replicate_nat]
  omega
theorem l19Round {p : DProgram} (hp : Sml p) (stem loop : Bool × List Int) (h1 : stem.2.length ≤ 60) (h2 : loop.2.length ≤ 60) : ∃ b, spec_l19Round p stem loop = some (b, roundL p stem.2 loop.2) := by
  have hlim := lim_eq
  obtain ⟨b, g⟩ := spec_round_L0 hp loop h2 (manyS p + 1) 0 false stem.2 (by omega) (by omega)
  have g' : spec_l19Round_L0 loop p (false, stem.2) 0 = _ := g
  rw [spec_l19Round_eq, spec_l1Own_eq, gT (by simp; omega), some_bind, List.nil_append, g', some_bind]
  exact ⟨b, rfl⟩
theorem around {p : DProgram} (hp : Sml p) (stem loop : Bool × List Int) (h1 : stem.2.length ≤ 60) (h2 : loop.2.length ≤ 60) (h3 : 0 < loop.2.length) : ∃ b, impl_around p stem loop = some (b, roundL p stem.2 loop.2) := by
  have hm := manyS_in hp
  have hr := roundL_length hp stem.2 loop.2 h1 h2
  obtain ⟨b, e⟩ := concatInt (false, [stem, (false, (List.replicate (manyS p + 1) loop.2).flatten)]) (by
    simp only [roundL, List.length_append] at hr
    simp only [List.map_cons, List.map_nil, List.sum_cons, List.sum_nil]
    omega) (by simp)
  rw [impl_around_eq, states_many hp, some_bind, up1 _ (by omega), repeatInts loop (manyS p + 1) h3 (by omega) (by omega) (by omega), some_bind, e, some_bind]
  exact ⟨b, by simp [roundL]⟩
theorem round_law (p : DProgram) (hs : SmProgram p) (hw : WfP p) (v : DSight) (hv : v.2.length ≤ 1048576) (stem loop : Bool × List Int) (hl1 : stem.2.length ≤ 1048576) (hl2 : loop.2.length ≤ 1048576) :
    ∃ f g a ok, spec_RoundAndRound p v stem loop = some ((f, a), ok) ∧ impl_RoundAndRound p v stem loop = some ((g, a), ok) ∧ a.length ≤ 1048576 := by
  rw [spec_RoundAndRound_eq, impl_RoundAndRound_eq, spec_l19Lasso_eq, impl_isRoundPath_eq, spec_goodSight p hs hw v hv, some_bind]
  by_cases c1 : (stem.2.length : Int) ≤ 60
  · rw [gT c1, gT c1, l1In_eq, some_bind]
    by_cases c2 : 1 ≤ (loop.2.length : Int) ∧ (loop.2.length : Int) ≤ 60
    · obtain ⟨f, e⟩ := concatInt (false, [stem, loop]) (by simp; omega) (by simp)
      have e' : slices_Concat_int (false, [stem, loop]) = some (f, stem.2 ++ loop.2) := by rw [e]; simp
      rw [decide_eq_true c2, cond_true, gT c2.1, gT c2.2, e', some_bind, isClassPath p hs v hv _ (by rw [List.length_append]; omega), some_bind, some_bind, classPath]
      cases h0 : goodSight p v.2 with
      | false => exact ⟨true, true, [], false, rfl, rfl, by simp⟩
      | true =>
        obtain ⟨hp, hv2, hvi⟩ := goodSight_in h0
        rw [l19Classes v hv hvi stem hl1, l19Classes v hv hvi loop hl2, Bool.true_and, cond_true, some_bind, decide_eq_true (by rw [List.length_append]; omega), Bool.true_and, List.all_append]
        cases stem.2.all fun x => decide (0 ≤ x ∧ x ≤ manyC v.2 - 1) with
        | false => exact ⟨true, true, [], false, rfl, rfl, by simp⟩
        | true =>
          cases loop.2.all fun x => decide (0 ≤ x ∧ x ≤ manyC v.2 - 1) with
          | false => exact ⟨true, true, [], false, rfl, rfl, by simp⟩
          | true =>
            obtain ⟨b1, g1⟩ := l19Round hp stem loop (by omega) (by omega)
            obtain ⟨b2, g2⟩ := around hp stem loop (by omega) (by omega) (by omega)
            have hr := roundL_length hp stem.2 loop.2 (by omega) (by omega)
            refine ⟨b1, b2, roundL p stem.2 loop.2, true, ?_, ?_, by omega⟩
            · simp only [cond_true, some_bind, Bool.not_true, cond_false, g1]
            · simp only [Bool.and_self, Bool.not_true, cond_false, g2, some_bind]
    · refine ⟨true, true, [], false, ?_, ?_, by simp⟩
      · rw [decide_eq_false c2]
        cases goodSight p v.2 <;> rfl
      · by_cases c3 : (loop.2.length : Int) ≥ 1
        · rw [gT c3, gF (by omega)]; rfl
        · rw [gF c3]; rfl
  · refine ⟨true, true, [], false, ?_, ?_, by simp⟩
    · rw [gF c1]
      cases goodSight p v.2 <;> rfl
    · rw [gF c1]; rfl
theorem pure_FnExactRoundAndRound (x0 : DProgram) (x1 : DSight) (x2 x3 : Bool × List Int) (w0 : WfD tyProgram x0) (w1 : WfD tySight x1) (w2 : WfD (.sl (.int .i64)) x2) (w3 : WfD (.sl (.int .i64)) x3) : laws_FnExactRoundAndRound x0 x1 x2 x3 = some true := by
  have w1' : x1.2.length ≤ big := w1.2.1
  rw [laws_FnExactRoundAndRound_eq]
  by_cases c0 : (x2.2.length : Int) > 1048576
  · rw [gT c0]
  rw [gF c0]
  by_cases c4 : (x3.2.length : Int) > 1048576
  · rw [gT c4]
  rw [gF c4]
  obtain ⟨r0, e0, h0⟩ := szProgram x0 w0 1048576 (by omega)
  rw [e0, some_bind]
  rcases h0 with h0 | ⟨h0, h1, hs⟩
  · rw [gT h0]
  rw [gF (by omega), szSight x1 r0 (by omega) w1', some_bind]
  by_cases c1 : (x1.2.length : Int) ≤ r0
  · rw [if_pos c1, gF (by omega), toProgram x0 hs, some_bind, toSight x1 (by omega), some_bind, toIntS x2 (by omega), some_bind, toIntS x3 (by omega), some_bind]
    obtain ⟨f, g, a, ok, e1, e2, ha⟩ := round_law (cpProgram x0) (Sm_cp hs) (WfP_cp (WfD_prog w0)) (false, x1.2) (by simp only; omega) (false, x2.2) (false, x3.2) (by simp only; omega) (by simp only; omega)
    have e1' : spec_RoundAndRound ((cpProgram x0).1, ((cpProgram x0).2.1, (((cpProgram x0).2.2.1.1, (cpProgram x0).2.2.1.2), ((cpProgram x0).2.2.2.1, (cpProgram x0).2.2.2.2)))) (false, x1.2) (false, x2.2) (false, x3.2) = some ((f, a), ok) := e1
    have e2' : impl_RoundAndRound ((cpProgram x0).1, ((cpProgram x0).2.1, (((cpProgram x0).2.2.1.1, (cpProgram x0).2.2.1.2), ((cpProgram x0).2.2.2.1, (cpProgram x0).2.2.2.2)))) (false, x1.2) (false, x2.2) (false, x3.2) = some ((g, a), ok) := e2
    have e3 : laws_eqProgram ((cpProgram x0).1, ((cpProgram x0).2.1, (((cpProgram x0).2.2.1.1, (cpProgram x0).2.2.1.2), ((cpProgram x0).2.2.2.1, (cpProgram x0).2.2.2.2)))) ((cpProgram x0).1, ((cpProgram x0).2.1, (((cpProgram x0).2.2.1.1, (cpProgram x0).2.2.1.2), ((cpProgram x0).2.2.2.1, (cpProgram x0).2.2.2.2)))) = some true := eqProgram_same _ (Sm_cp hs)
    obtain ⟨y, z, k', e4, e5, e6⟩ := markProgram (cpProgram x0) (Sm_cp hs) 1 (by omega) (by omega)
    simp only [e1', e2', some_bind, eqIntS_same g f a ha, beq_self_eq_true, Bool.not_true, cond_false, e3, e4]
    rw [eqSight_same false false x1.2 (by omega), some_bind, Bool.not_true, cond_false, eqIntS_same false false x2.2 (by omega), some_bind, Bool.not_true, cond_false, eqIntS_same false false x3.2 (by omega), some_bind, Bool.not_true, cond_false, markSight _ _ _ (by omega) (by omega) (by omega), some_bind, markIntS _ _ _ (by omega) (by simp only; omega) (by simp only; omega), some_bind, markIntS _ _ _ (by omega) (by simp only; omega) (by simp only; omega), some_bind, gF (by simp only; omega), markIntS _ _ _ ha (by omega) (by omega), some_bind]
    simp only [heldIntS g a.length 1 ha (by omega) (by omega), some_bind]
    rw [gF (by omega), bF (by simp), gF (by omega), bF (by simp)]
  · rw [if_neg c1, gT (by omega)]

end Go.Proofs.Ytdfccojbamlkdaa.R
