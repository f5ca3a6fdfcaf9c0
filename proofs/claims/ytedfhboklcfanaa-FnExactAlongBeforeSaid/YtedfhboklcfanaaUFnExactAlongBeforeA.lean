/- The plain law of FnExactAlongBefore: what the two functions compute is the same. -/
import Derived.Test.YtedfhboklcfanaaEFnExactAlongBefore
import Derived.Laws.MathBits
set_option linter.all false
namespace Go.Proofs.Ytedfhboklcfanaa.R
open Go.Rf
/-- The cut of the reference, bit by bit, is the remainder. -/
theorem cut_loop (n a : Nat) (hn : n ≤ 4611686018427387904) (ha : a < 2 ^ 64) (d : Nat) : ∀ i : Nat, i + d = n →
    spec_l1Cut_L0 (n : Int) (a : Int) ((a % 2 ^ (min i 64) : Nat) : Int) (i : Int) = some ((a % 2 ^ (min n 64) : Nat) : Int) := by
  induction d with
  | zero =>
    intro i hi
    obtain rfl : i = n := by omega
    rw [spec_l1Cut_L0_eq, gF (by omega)]
  | succ d ih =>
    intro i hi
    have e1 : IntKind.u64.wrap (i : Int) = (i : Int) := wru (by omega)
    rw [spec_l1Cut_L0_eq, gT (by omega), e1, gF (by omega), up1 i (by omega), bind_id]
    by_cases h64 : i < 64
    · have hlt : a % 2 ^ i < 2 ^ 64 := Nat.lt_of_le_of_lt (Nat.mod_le _ _) ha
      have hp : (2 : Nat) ^ i < 2 ^ 64 := Nat.pow_lt_pow_right (by decide) h64
      rw [shl_one i h64, bAnd_eq a (2 ^ i) ha hp, show min i 64 = i by omega, bOr_eq (a % 2 ^ i) (a &&& 2 ^ i) hlt (Nat.and_lt_two_pow _ hp), cut_step]
      have := ih (i + 1) (by omega)
      rw [show min (i + 1) 64 = i + 1 by omega] at this
      exact this
    · have e3 : bShl .u64 1 (i : Int) = 0 := by
        unfold bShl
        rw [show min ((i : Int)).toNat (IntKind.u64.bits) = 64 by simp only [Int.toNat_natCast, IntKind.bits]; omega, wru_mod]
        decide
      have hlt : a % 2 ^ (min i 64) < 2 ^ 64 := Nat.lt_of_le_of_lt (Nat.mod_le _ _) ha
      rw [e3, show (0 : Int) = ((0 : Nat) : Int) from rfl, bAnd_eq a 0 ha (by decide), bOr_eq _ (a &&& 0) hlt (by simp)]
      rw [show a % 2 ^ (min i 64) ||| a &&& 0 = a % 2 ^ (min (i + 1) 64) by simp; rw [show min i 64 = min (i + 1) 64 by omega]]
      exact ih (i + 1) (by omega)
theorem cut_nat (n a : Nat) (hn : n ≤ 4611686018427387904) (ha : a < 2 ^ 64) : spec_l1Cut (n : Int) (a : Int) = some ((a % 2 ^ (min n 64) : Nat) : Int) := by
  have := cut_loop n a hn ha n 0 (by omega)
  rw [spec_l1Cut_eq, bind_id]
  simpa [Nat.mod_one] using this

/-- The greatest word of a width. -/
def top (wide : Int) : Int := 2 ^ wide.toNat - 1
theorem top_in {wide : Int} (h : 1 ≤ wide ∧ wide ≤ 64) : 1 ≤ top wide ∧ top wide ≤ 18446744073709551615 := by
  obtain ⟨n, rfl⟩ := Int.eq_ofNat_of_zero_le (show 0 ≤ wide by omega)
  have h1 := pow_le64 (n := n) (by omega)
  have h2 : (2 : Nat) ^ 1 ≤ 2 ^ n := Nat.pow_le_pow_right (by decide) (by omega)
  have e : ((2 : Int) ^ n) = ((2 ^ n : Nat) : Int) := by simp
  simp only [top, Int.toNat_natCast, e]
  omega
theorem mask_top (wide : Int) (hw : 1 ≤ wide ∧ wide ≤ 64) : impl_mask wide = some (top wide) := by
  obtain ⟨n, rfl⟩ := Int.eq_ofNat_of_zero_le (show 0 ≤ wide by omega)
  have hp : 0 < (2 : Nat) ^ n := Nat.two_pow_pos _
  have e : ((2 : Int) ^ n) = ((2 ^ n : Nat) : Int) := by simp
  rw [impl_mask_eq, mask_eq n (by omega) (by omega), wr (by omega), gF (by omega)]
  simp only [top, Int.toNat_natCast, e]
  congr 1
  omega
/-- Is a word of a width? -/
def goodWord (wide a : Int) : Bool := decide (1 ≤ wide) && decide (wide ≤ 64) && decide (a ≤ top wide)
theorem goodWord_iff {wide a : Int} : goodWord wide a = true ↔ 1 ≤ wide ∧ wide ≤ 64 ∧ a ≤ top wide := by
  simp only [goodWord, Bool.and_eq_true, decide_eq_true_eq]
  omega
theorem isWide_eq (n : Int) : impl_isWide n = some (decide (1 ≤ n ∧ n ≤ 64)) := by
  rw [impl_isWide_eq]
  by_cases h : n ≥ 1
  · rw [gT h]; congr 1; apply decide_eq_decide.mpr; omega
  · rw [gF h]; congr 1; symm; apply decide_eq_false; omega
theorem l1In_eq (n lo hi : Int) : spec_l1In n lo hi = some (decide (lo ≤ n ∧ n ≤ hi)) := by
  rw [spec_l1In_eq]
  by_cases h : n ≥ lo
  · rw [gT h]; congr 1; apply decide_eq_decide.mpr; omega
  · rw [gF h]; congr 1; symm; apply decide_eq_false; omega
theorem l1Wide_eq (n : Int) : spec_l1Wide n = some (decide (1 ≤ n ∧ n ≤ 64)) := by rw [spec_l1Wide_eq, bind_id, l1In_eq]
theorem spec_goodWord (wide a : Int) (h : U64 a) : spec_GoodWord wide a = some (goodWord wide a) := by
  rw [spec_GoodWord_eq, l1Wide_eq, some_bind]
  by_cases hw : 1 ≤ wide ∧ wide ≤ 64
  · rw [gT hw]
    obtain ⟨h0, h1⟩ := h
    obtain ⟨n, rfl⟩ := Int.eq_ofNat_of_zero_le (show 0 ≤ wide by omega)
    obtain ⟨m, rfl⟩ := Int.eq_ofNat_of_zero_le h0
    have hm : m < 2 ^ 64 := by simpa using (show m < 18446744073709551616 by omega)
    rw [cut_nat n m (by omega) hm, some_bind, show min n 64 = n by omega]
    have e : ((2 : Int) ^ n) = ((2 ^ n : Nat) : Int) := by simp
    have hp : 0 < (2 : Nat) ^ n := Nat.two_pow_pos _
    congr 1
    rw [Bool.eq_iff_iff, beq_iff_eq, goodWord_iff]
    simp only [top, Int.toNat_natCast, e]
    constructor
    · intro h
      have h' : m % 2 ^ n = m := by exact_mod_cast h
      have := Nat.mod_lt m hp
      omega
    · intro h
      rw [Nat.mod_eq_of_lt (by omega)]
  · rw [gF hw]
    congr 1
    symm
    rw [← Bool.not_eq_true, goodWord_iff]
    omega
theorem impl_goodWord (wide a : Int) : impl_GoodWord wide a = some (goodWord wide a) := by
  rw [impl_GoodWord_eq, isWide_eq, some_bind]
  by_cases hw : 1 ≤ wide ∧ wide ≤ 64
  · rw [gT hw, mask_top wide hw, some_bind]
    congr 1
    rw [Bool.eq_iff_iff, goodWord_iff, decide_eq_true_eq]
    omega
  · rw [gF hw]
    congr 1
    symm
    rw [← Bool.not_eq_true, goodWord_iff]
    omega
theorem szNodeS (a : Bool × List DNode) (left : Int) (h0 : 0 ≤ left ∧ left ≤ 1048576) (hl : a.2.length ≤ big) : laws_szNodeS a left = some (if (a.2.length : Int) ≤ left then left - a.2.length else -1) := by
  rw [big_eq] at hl
  rw [laws_szNodeS_eq, wr (by omega)]
  by_cases h : (a.2.length : Int) ≤ left
  · rw [gF (by omega), if_pos h]
  · rw [gT (by omega), if_neg h]
theorem toNodeS (a : Bool × List DNode) (hl : a.2.length ≤ 1048576) : laws_toNodeS a = some (false, a.2) := by
  have hlim : lim = 1099511627776 := rfl
  rw [laws_toNodeS_eq, gT (by omega), gT (by omega), gT (by omega), gT (by omega), bind_id]
  have := loop_map a.2 (fun x => x) (fun o i => laws_toNodeS_L0 a o i) false (fun i h x hx => by
    rw [laws_toNodeS_L0_eq, gT (by omega), gT (by omega), gT (by omega), getD_at a.2 _ i h, laws_toNode_eq, some_bind, gT (by omega), gT (by simp only; omega), up1 i (by omega), bind_id, Int.toNat_natCast]) (fun x hx => by
    rw [laws_toNodeS_L0_eq, gF (by omega)]) (List.replicate (Int.toNat (a.2.length : Int)) (0, 0)) (by simp)
  rw [this]
  simp
theorem eqNodeS_self (a : Bool × List DNode) (hl : a.2.length ≤ 1048576) (b : Bool) : laws_eqNodeS a (b, a.2) = some true := by
  rw [laws_eqNodeS_eq, bF (by simp)]
  have := loop_all a.2 (fun _ => true) (.inr () : Bool ⊕ Unit) (.inl false) (fun i => laws_eqNodeS_L0 a (b, a.2) i) (fun i h => by
    rw [laws_eqNodeS_L0_eq, gT (by omega), gT (by omega), gT (by omega), gT (by omega), gT (by simp only; omega), getD_at a.2 _ i h, laws_eqNode_eq, bF (by simp), bF (by simp), some_bind, bF (by simp), up1 i (by omega), bind_id, cond_true]) (by
    rw [laws_eqNodeS_L0_eq, gF (by omega)])
  rw [this, show (a.2.all fun _ => true) = true by simp]
  rfl
theorem eqNodeS_same (f g : Bool) (l : List DNode) (hl : l.length ≤ 1048576) : laws_eqNodeS (f, l) (g, l) = some true := eqNodeS_self (f, l) hl g
def SmChange (c : DChange) : Prop := c.2.2.length ≤ 1048576
def SmCommand (c : DCommand) : Prop := c.1.2.length ≤ 1048576 ∧ c.2.2.length ≤ 1048576 ∧ ∀ d ∈ c.2.2, SmChange d
def SmProgram (p : DProgram) : Prop := p.2.2.1.2.length ≤ 1048576 ∧ p.2.2.2.2.length ≤ 1048576 ∧ ∀ c ∈ p.2.2.2.2, SmCommand c
theorem szChange (c : DChange) (left : Int) (h0 : 0 ≤ left ∧ left ≤ 1048576) (hl : c.2.2.length ≤ big) : ∃ r, laws_szChange c left = some r ∧ (r < 0 ∨ (0 ≤ r ∧ r ≤ left ∧ SmChange c)) := by
  rw [laws_szChange_eq, szNodeS c.2 left h0 hl, some_bind]
  by_cases h : (c.2.2.length : Int) ≤ left
  · rw [if_pos h, gF (by omega)]
    exact ⟨_, rfl, .inr ⟨by omega, by omega, by unfold SmChange; omega⟩⟩
  · rw [if_neg h, gT (by omega)]
    exact ⟨_, rfl, .inl (by omega)⟩
/-- a loop that counts down what may still come -/
theorem sz_loop {α : Type} (l : List α) (Q : α → Prop) (F : Int → Int → Option (Int ⊕ Int)) (hl : l.length ≤ 1048576)
    (hs : ∀ (i : Nat) (h : i < l.length) (left : Int), 0 ≤ left ∧ left ≤ 1048576 → (F left (i : Int) = some (.inl (-1))) ∨ ∃ r, 0 ≤ r ∧ r ≤ left ∧ Q l[i] ∧ F left (i : Int) = F r ((i + 1 : Nat) : Int))
    (he : ∀ left, F left (l.length : Int) = some (.inr left)) (left : Int) (h0 : 0 ≤ left ∧ left ≤ 1048576) : F left 0 = some (.inl (-1)) ∨ ∃ r, F left 0 = some (.inr r) ∧ 0 ≤ r ∧ r ≤ left ∧ ∀ x ∈ l, Q x := by
  have key : ∀ (d i : Nat) (left : Int), i + d = l.length → 0 ≤ left ∧ left ≤ 1048576 → F left (i : Int) = some (.inl (-1)) ∨ ∃ r, F left (i : Int) = some (.inr r) ∧ 0 ≤ r ∧ r ≤ left ∧ ∀ x ∈ l.drop i, Q x := by
    intro d
    induction d with
    | zero =>
      intro i left hi h0
      obtain rfl : i = l.length := by omega
      exact .inr ⟨left, he left, h0.1, Int.le_refl _, by simp⟩
    | succ d ih =>
      intro i left hi h0
      have hlt : i < l.length := by omega
      rcases hs i hlt left h0 with h | ⟨r, h1, h2, h3, h4⟩
      · exact .inl h
      · rw [h4]
        rcases ih (i + 1) r (by omega) ⟨h1, by omega⟩ with h | ⟨r', h5, h6, h7, h8⟩
        · exact .inl h
        · refine .inr ⟨r', h5, h6, by omega, fun x hx => ?_⟩
          rw [List.drop_eq_getElem_cons hlt] at hx
          rcases List.mem_cons.1 hx with rfl | hx
          · exact h3
          · exact h8 x hx
  have := key l.length 0 left (by omega) h0
  simpa using this
theorem szChangeS (a : Bool × List DChange) (left : Int) (h0 : 0 ≤ left ∧ left ≤ 1048576) (hl : a.2.length ≤ big) (hb : ∀ c ∈ a.2, c.2.2.length ≤ big) : ∃ r, laws_szChangeS a left = some r ∧ (r < 0 ∨ (0 ≤ r ∧ r ≤ left ∧ a.2.length ≤ 1048576 ∧ ∀ c ∈ a.2, SmChange c)) := by
  rw [big_eq] at hl
  rw [laws_szChangeS_eq, wr (by omega)]
  by_cases h : (a.2.length : Int) ≤ left
  · rw [gF (by omega)]
    rcases sz_loop a.2 SmChange (fun left i => laws_szChangeS_L0 a left i) (by omega) (fun i h left h0 => by
      obtain ⟨r, h1, h2⟩ := szChange a.2[i] left h0 (hb _ (List.getElem_mem h))
      rw [laws_szChangeS_L0_eq, gT (by omega), gT (by omega), gT (by omega), getD_at a.2 _ i h, h1, some_bind]
      rcases h2 with h2 | ⟨h2, h3, h4⟩
      · rw [gT h2]; exact .inl rfl
      · rw [gF (by omega), up1 i (by omega), bind_id]; exact .inr ⟨r, h2, h3, h4, rfl⟩) (fun left => by
      rw [laws_szChangeS_L0_eq, gF (by omega)]) (left - a.2.length) (by omega) with h1 | ⟨r, h1, h2, h3, h4⟩
    · rw [h1]; exact ⟨-1, rfl, .inl (by omega)⟩
    · rw [h1]; exact ⟨r, rfl, .inr ⟨h2, by omega, by omega, h4⟩⟩
  · rw [gT (by omega)]
    exact ⟨_, rfl, .inl (by omega)⟩
theorem szCommand (c : DCommand) (left : Int) (h0 : 0 ≤ left ∧ left ≤ 1048576) (h1 : c.1.2.length ≤ big) (hl : c.2.2.length ≤ big) (hb : ∀ d ∈ c.2.2, d.2.2.length ≤ big) : ∃ r, laws_szCommand c left = some r ∧ (r < 0 ∨ (0 ≤ r ∧ r ≤ left ∧ SmCommand c)) := by
  rw [laws_szCommand_eq, szNodeS c.1 left h0 h1, some_bind]
  by_cases h : (c.1.2.length : Int) ≤ left
  · rw [if_pos h, gF (by omega)]
    obtain ⟨r, h2, h3⟩ := szChangeS c.2 (left - c.1.2.length) (by omega) hl hb
    rw [h2, some_bind]
    rcases h3 with h3 | ⟨h3, h4, h5, h6⟩
    · rw [gT h3]; exact ⟨_, rfl, .inl (by omega)⟩
    · rw [gF (by omega)]; exact ⟨_, rfl, .inr ⟨h3, by omega, ⟨by omega, h5, h6⟩⟩⟩
  · rw [if_neg h, gT (by omega)]
    exact ⟨_, rfl, .inl (by omega)⟩
def BigCommand (c : DCommand) : Prop := c.1.2.length ≤ big ∧ c.2.2.length ≤ big ∧ ∀ d ∈ c.2.2, d.2.2.length ≤ big
theorem szCommandS (a : Bool × List DCommand) (left : Int) (h0 : 0 ≤ left ∧ left ≤ 1048576) (hl : a.2.length ≤ big) (hb : ∀ c ∈ a.2, BigCommand c) : ∃ r, laws_szCommandS a left = some r ∧ (r < 0 ∨ (0 ≤ r ∧ r ≤ left ∧ a.2.length ≤ 1048576 ∧ ∀ c ∈ a.2, SmCommand c)) := by
  rw [big_eq] at hl
  rw [laws_szCommandS_eq, wr (by omega)]
  by_cases h : (a.2.length : Int) ≤ left
  · rw [gF (by omega)]
    rcases sz_loop a.2 SmCommand (fun left i => laws_szCommandS_L0 a left i) (by omega) (fun i h left h0 => by
      obtain ⟨b1, b2, b3⟩ := hb _ (List.getElem_mem h)
      obtain ⟨r, h1, h2⟩ := szCommand a.2[i] left h0 b1 b2 b3
      rw [laws_szCommandS_L0_eq, gT (by omega), gT (by omega), gT (by omega), getD_at a.2 _ i h, h1, some_bind]
      rcases h2 with h2 | ⟨h2, h3, h4⟩
      · rw [gT h2]; exact .inl rfl
      · rw [gF (by omega), up1 i (by omega), bind_id]; exact .inr ⟨r, h2, h3, h4, rfl⟩) (fun left => by
      rw [laws_szCommandS_L0_eq, gF (by omega)]) (left - a.2.length) (by omega) with h1 | ⟨r, h1, h2, h3, h4⟩
    · rw [h1]; exact ⟨-1, rfl, .inl (by omega)⟩
    · rw [h1]; exact ⟨r, rfl, .inr ⟨h2, by omega, by omega, h4⟩⟩
  · rw [gT (by omega)]
    exact ⟨_, rfl, .inl (by omega)⟩
theorem WfD_big {p : DProgram} (w : WfD tyProgram p) : p.2.2.1.2.length ≤ big ∧ p.2.2.2.2.length ≤ big ∧ ∀ c ∈ p.2.2.2.2, BigCommand c := by
  obtain ⟨_, _, h1, h2⟩ := w
  refine ⟨h1.2.1, h2.2.1, fun c hc => ?_⟩
  obtain ⟨h3, h4⟩ := h2.2.2 c hc
  exact ⟨h3.2.1, h4.2.1, fun d hd => (h4.2.2 d hd).2.2.1⟩
theorem szProgram (p : DProgram) (w : WfD tyProgram p) (left : Int) (h0 : 0 ≤ left ∧ left ≤ 1048576) : ∃ r, laws_szProgram p left = some r ∧ (r < 0 ∨ (0 ≤ r ∧ r ≤ left ∧ SmProgram p)) := by
  obtain ⟨b1, b2, b3⟩ := WfD_big w
  rw [laws_szProgram_eq, szNodeS p.2.2.1 left h0 b1, some_bind]
  by_cases h : (p.2.2.1.2.length : Int) ≤ left
  · rw [if_pos h, gF (by omega)]
    obtain ⟨r, h2, h3⟩ := szCommandS p.2.2.2 (left - p.2.2.1.2.length) (by omega) b2 b3
    rw [h2, some_bind]
    rcases h3 with h3 | ⟨h3, h4, h5, h6⟩
    · rw [gT h3]; exact ⟨_, rfl, .inl (by omega)⟩
    · rw [gF (by omega)]; exact ⟨_, rfl, .inr ⟨h3, by omega, ⟨by omega, h5, h6⟩⟩⟩
  · rw [if_neg h, gT (by omega)]
    exact ⟨_, rfl, .inl (by omega)⟩
/-! a copy: no slice is nil -/
def cpChange (c : DChange) : DChange := (c.1, (false, c.2.2))
def cpCommand (c : DCommand) : DCommand := ((false, c.1.2), (false, c.2.2.map cpChange))
def cpProgram (p : DProgram) : DProgram := (p.1, (p.2.1, ((false, p.2.2.1.2), (false, p.2.2.2.2.map cpCommand))))
theorem toChangeS (a : Bool × List DChange) (hl : a.2.length ≤ 1048576) (hs : ∀ c ∈ a.2, SmChange c) : laws_toChangeS a = some (false, a.2.map cpChange) := by
  have hlim : lim = 1099511627776 := rfl
  rw [laws_toChangeS_eq, gT (by omega), gT (by omega), gT (by omega), gT (by omega), bind_id]
  exact loop_map a.2 cpChange (fun o i => laws_toChangeS_L0 a o i) false (fun i h x hx => by
    rw [laws_toChangeS_L0_eq, gT (by omega), gT (by omega), gT (by omega), getD_at a.2 _ i h, laws_toChange_eq, toNodeS _ (hs _ (List.getElem_mem h)), some_bind, some_bind, gT (by omega), gT (by simp only; omega), up1 i (by omega), bind_id, Int.toNat_natCast]
    rfl) (fun x hx => by
    rw [laws_toChangeS_L0_eq, gF (by omega)]) (List.replicate (Int.toNat (a.2.length : Int)) (0, (true, []))) (by simp)
theorem toCommandS (a : Bool × List DCommand) (hl : a.2.length ≤ 1048576) (hs : ∀ c ∈ a.2, SmCommand c) : laws_toCommandS a = some (false, a.2.map cpCommand) := by
  have hlim : lim = 1099511627776 := rfl
  rw [laws_toCommandS_eq, gT (by omega), gT (by omega), gT (by omega), gT (by omega), bind_id]
  exact loop_map a.2 cpCommand (fun o i => laws_toCommandS_L0 a o i) false (fun i h x hx => by
    obtain ⟨s1, s2, s3⟩ := hs _ (List.getElem_mem h)
    rw [laws_toCommandS_L0_eq, gT (by omega), gT (by omega), gT (by omega), getD_at a.2 _ i h, laws_toCommand_eq, toNodeS _ s1, some_bind, toChangeS _ s2 s3, some_bind, some_bind, gT (by omega), gT (by simp only; omega), up1 i (by omega), bind_id, Int.toNat_natCast]
    rfl) (fun x hx => by
    rw [laws_toCommandS_L0_eq, gF (by omega)]) (List.replicate (Int.toNat (a.2.length : Int)) ((true, []), (true, []))) (by simp)
theorem toProgram (p : DProgram) (hs : SmProgram p) : laws_toProgram p = some (cpProgram p) := by
  obtain ⟨s1, s2, s3⟩ := hs
  rw [laws_toProgram_eq, toNodeS _ s1, some_bind, toCommandS _ s2 s3, some_bind]
  rfl
/-- two loops over one list that find no difference -/
theorem eq_loop {α : Type} (l : List α) (F : Int → Option (Bool ⊕ Unit)) (hs : ∀ (i : Nat) (h : i < l.length), F (i : Int) = F ((i + 1 : Nat) : Int)) (he : F (l.length : Int) = some (.inr ())) : F 0 = some (.inr ()) := by
  have key : ∀ (d i : Nat), i + d = l.length → F (i : Int) = some (.inr ()) := by
    intro d
    induction d with
    | zero => intro i hi; obtain rfl : i = l.length := by omega
              exact he
    | succ d ih => intro i hi; rw [hs i (by omega)]; exact ih (i + 1) (by omega)
  simpa using key l.length 0 (by omega)
theorem eqChangeS_same (f g : Bool) (l : List DChange) (hl : l.length ≤ 1048576) (hs : ∀ c ∈ l, SmChange c) : laws_eqChangeS (f, l) (g, l) = some true := by
  rw [laws_eqChangeS_eq, bF (by simp)]
  have := eq_loop l (fun i => laws_eqChangeS_L0 (f, l) (g, l) i) (fun i h => by
    rw [laws_eqChangeS_L0_eq, gT (by simp only; omega), gT (by omega), gT (by simp only; omega), gT (by omega), gT (by simp only; omega), getD_at l _ i h, laws_eqChange_eq, bF (by simp), eqNodeS_same l[i].2.1 l[i].2.1 l[i].2.2 (hs _ (List.getElem_mem h)), some_bind, bF (by simp), some_bind, bF (by simp), up1 i (by omega), bind_id]) (by
    rw [laws_eqChangeS_L0_eq, gF (by simp only; omega)])
  rw [this]
  rfl
theorem eqCommandS_same (f g : Bool) (l : List DCommand) (hl : l.length ≤ 1048576) (hs : ∀ c ∈ l, SmCommand c) : laws_eqCommandS (f, l) (g, l) = some true := by
  rw [laws_eqCommandS_eq, bF (by simp)]
  have := eq_loop l (fun i => laws_eqCommandS_L0 (f, l) (g, l) i) (fun i h => by
    obtain ⟨s1, s2, s3⟩ := hs _ (List.getElem_mem h)
    rw [laws_eqCommandS_L0_eq, gT (by simp only; omega), gT (by omega), gT (by simp only; omega), gT (by omega), gT (by simp only; omega), getD_at l _ i h, laws_eqCommand_eq, eqNodeS_same l[i].1.1 l[i].1.1 l[i].1.2 s1, some_bind, bF (by simp), eqChangeS_same l[i].2.1 l[i].2.1 l[i].2.2 s2 s3, some_bind, bF (by simp), some_bind, bF (by simp), up1 i (by omega), bind_id]) (by
    rw [laws_eqCommandS_L0_eq, gF (by simp only; omega)])
  rw [this]
  rfl
theorem eqProgram_same (p : DProgram) (hs : SmProgram p) : laws_eqProgram p p = some true := by
  obtain ⟨s1, s2, s3⟩ := hs
  rw [laws_eqProgram_eq, bF (by simp), bF (by simp), eqNodeS_same p.2.2.1.1 p.2.2.1.1 p.2.2.1.2 s1, some_bind, bF (by simp), eqCommandS_same p.2.2.2.1 p.2.2.2.1 p.2.2.2.2 s2 s3, some_bind, bF (by simp)]
theorem Sm_cp {p : DProgram} (hs : SmProgram p) : SmProgram (cpProgram p) := by
  obtain ⟨s1, s2, s3⟩ := hs
  refine ⟨s1, by simpa [cpProgram] using s2, fun c hc => ?_⟩
  obtain ⟨c0, h1, rfl⟩ := List.mem_map.1 hc
  obtain ⟨q1, q2, q3⟩ := s3 c0 h1
  refine ⟨q1, by simpa [cpCommand] using q2, fun d hd => ?_⟩
  obtain ⟨d0, h2, rfl⟩ := List.mem_map.1 hd
  exact q3 d0 h2
theorem toIntS (a : Bool × List Int) (hl : a.2.length ≤ 1048576) : laws_toIntS a = some (false, a.2) := by
  have hlim := lim_eq
  rw [laws_toIntS_eq, gT (by omega), gT (by omega), gT (by omega), gT (by omega)]
  have := loop_map a.2 (fun x => x) (fun o i => laws_toIntS_L0 a o i) false (fun i h x hx => by
    rw [laws_toIntS_L0_eq, gT (by omega), gT (by omega), gT (by omega), gT (by omega), gT (by simp only; omega), getD_at a.2 _ i h, up1 i (by omega), bind_id, Int.toNat_natCast]) (fun x hx => by
    rw [laws_toIntS_L0_eq, gF (by omega)]) (List.replicate (Int.toNat (a.2.length : Int)) (0 : Int)) (by simp)
  rw [this, some_bind, List.map_id']
theorem eqIntS_same (f g : Bool) (l : List Int) (hl : l.length ≤ 1048576) : laws_eqIntS (f, l) (g, l) = some true := by
  rw [laws_eqIntS_eq, bF (by simp), eq_loop l (fun i => laws_eqIntS_L0 (f, l) (g, l) i) (fun i h => by
    rw [laws_eqIntS_L0_eq, gT (by simp only; omega), gT (by omega), gT (by simp only; omega), gT (by omega), gT (by simp only; omega), bF (by simp), up1 i (by omega), bind_id]) (by rw [laws_eqIntS_L0_eq, gF (by simp)]), some_bind]
/-- the numbers from k on, n of them -/
def countL (k : Int) : Nat → List Int
  | 0 => []
  | n + 1 => k :: countL (k + 1) n
theorem markIntS_L0 (d : Nat) : ∀ (i : Nat) (b : Bool) (x : List Int) (k : Int), i + d = x.length → x.length ≤ 1048576 → 0 ≤ k → k + d ≤ 4000000000000000000 → laws_markIntS_L0 (b, x) k (i : Int) = some ((b, x.take i ++ countL k d), k + d) := by
  induction d with
  | zero =>
    intro i b x k hi hl hk hk2
    rw [laws_markIntS_L0_eq, gF (by simp only; omega), List.take_of_length_le (by omega)]
    simp [countL]
  | succ d ih =>
    intro i b x k hi hl hk hk2
    rw [laws_markIntS_L0_eq, gT (by simp only; omega), gT (by omega), gT (by simp only; omega), up1 i (by omega), wr (by omega), bind_id, Int.toNat_natCast, ih (i + 1) b (x.set i k) (k + 1) (by simp; omega) (by simpa using hl) (by omega) (by omega)]
    have e : (x.set i k).take (i + 1) = x.take i ++ [k] := by
      rw [List.take_succ_eq_append_getElem (by simpa using (by omega : i < x.length)), List.getElem_set_self, List.take_set_of_le (Nat.le_refl _)]
    rw [e, countL, List.append_assoc, List.singleton_append, show k + 1 + (d : Int) = k + ((d + 1 : Nat) : Int) by omega]
theorem markIntS (b : Bool) (x : List Int) (k : Int) (hl : x.length ≤ 1048576) (h0 : 0 ≤ k) (hk : k + x.length ≤ 4000000000000000000) : laws_markIntS (b, x) k = some ((b, countL k x.length), k + x.length) := by
  have := markIntS_L0 x.length 0 b x k (by omega) hl h0 hk
  have h' : laws_markIntS_L0 (b, x) k 0 = _ := this
  rw [laws_markIntS_eq, h', some_bind, List.take_zero, List.nil_append]
theorem getD_set_self {α : Type} (l : List α) (i : Nat) (x z : α) (h : i < l.length) : (l.set i x).getD i z = x := by
  simp [List.getD_eq_getElem?_getD, h]
/-- the numbers from k on, two for each node, n nodes -/
def countN (k : Int) : Nat → List DNode
  | 0 => []
  | n + 1 => (k, IntKind.u64.wrap (k + 1)) :: countN (k + 2) n
theorem countN_length (n : Nat) : ∀ k : Int, (countN k n).length = n := by
  induction n with
  | zero => intro k; rfl
  | succ n ih => intro k; simp [countN, ih]
theorem markNodeS_L0 (d : Nat) : ∀ (i : Nat) (b : Bool) (x : List DNode) (k : Int), i + d = x.length → x.length ≤ 1048576 → 0 ≤ k → k + 2 * d ≤ 4000000000000000000 → laws_markNodeS_L0 (b, x) k (i : Int) = some ((b, x.take i ++ countN k d), k + 2 * d) := by
  induction d with
  | zero =>
    intro i b x k hi hl hk hk2
    rw [laws_markNodeS_L0_eq, gF (by simp only; omega), List.take_of_length_le (by omega)]
    simp [countN]
  | succ d ih =>
    intro i b x k hi hl hk hk2
    have hlt : i < x.length := by omega
    have hw : IntKind.i64.wrap (k + 1) = k + 1 := wr (by omega)
    have e1 : (x.set i (k, (x.getD i (0, 0)).2)).getD i (0, 0) = (k, (x.getD i (0, 0)).2) := getD_set_self x i _ _ hlt
    rw [laws_markNodeS_L0_eq, gT (by simp only; omega), gT (by omega), gT (by simp only; omega), gT (by omega), gT (by rw [List.length_set]; simp only; omega), up1 i (by omega), hw, wr (by omega), bind_id]
    simp only [Int.toNat_natCast, e1, List.set_set]
    rw [ih (i + 1) b (x.set i (k, IntKind.u64.wrap (k + 1))) (k + 1 + 1) (by rw [List.length_set]; omega) (by rw [List.length_set]; exact hl) (by omega) (by omega)]
    have e : (x.set i (k, IntKind.u64.wrap (k + 1))).take (i + 1) = x.take i ++ [(k, IntKind.u64.wrap (k + 1))] := by
      rw [List.take_succ_eq_append_getElem (by rw [List.length_set]; exact hlt), List.getElem_set_self, List.take_set_of_le (Nat.le_refl _)]
    rw [e, countN, List.append_assoc, List.singleton_append, show k + 1 + 1 + 2 * (d : Int) = k + 2 * ((d + 1 : Nat) : Int) by omega, show k + 1 + 1 = k + 2 by omega]
theorem markNodeS_at (a : Bool × List DNode) (k : Int) (hl : a.2.length ≤ 1048576) (h0 : 0 ≤ k) (hk : k + 2 * a.2.length ≤ 4000000000000000000) : laws_markNodeS a k = some ((a.1, countN k a.2.length), k + 2 * a.2.length) := by
  have h2 := markNodeS_L0 a.2.length 0 a.1 a.2 k (by omega) hl h0 hk
  have h' : laws_markNodeS_L0 (a.1, a.2) k 0 = _ := h2
  rw [laws_markNodeS_eq, h', some_bind, List.take_zero, List.nil_append]
theorem markNodeS (a : Bool × List DNode) (k : Int) (hl : a.2.length ≤ 1048576) (h0 : 0 ≤ k) (hk : k + 2 * 1048576 ≤ 4000000000000000000) : ∃ y k', y.length = a.2.length ∧ laws_markNodeS a k = some ((a.1, y), k') ∧ k ≤ k' ∧ k' ≤ k + 2 * 1048576 :=
  ⟨_, _, countN_length _ _, markNodeS_at a k hl h0 (by omega), by omega, by omega⟩
theorem loop_mark {α : Type} (P : α → Prop) (A : Int) (hA : 0 ≤ A) (F : Bool × List α → Int → Int → Option ((Bool × List α) × Int)) (b : Bool) (n : Nat)
    (hs : ∀ (i : Nat) (x : List α) (k : Int) (h : i < x.length), x.length = n → P x[i] → 0 ≤ k → k + A ≤ 4000000000000000000 → ∃ e k', F (b, x) k (i : Int) = F (b, x.set i e) k' ((i + 1 : Nat) : Int) ∧ k ≤ k' ∧ k' ≤ k + A)
    (he : ∀ (x : List α) (k : Int), x.length = n → F (b, x) k (n : Int) = some ((b, x), k)) (d : Nat) : ∀ (i : Nat) (x : List α) (k : Int), i + d = n → x.length = n → (∀ e ∈ x.drop i, P e) → 0 ≤ k → k + d * A ≤ 4000000000000000000 →
    ∃ y k', y.length = x.length ∧ F (b, x) k (i : Int) = some ((b, y), k') ∧ k ≤ k' ∧ k' ≤ k + d * A := by
  induction d with
  | zero =>
    intro i x k hi hx hp hk hk2
    obtain rfl : i = n := by omega
    exact ⟨x, k, rfl, he x k hx, by omega, by simp⟩
  | succ d ih =>
    intro i x k hi hx hp hk hk2
    have e1 : ((d + 1 : Nat) : Int) * A = d * A + A := by rw [Int.natCast_add, Int.add_mul]; simp
    have e2 : 0 ≤ (d : Int) * A := Int.mul_nonneg (by omega) hA
    rw [e1] at hk2
    have hlt : i < x.length := by omega
    rw [List.drop_eq_getElem_cons hlt] at hp
    obtain ⟨e, k1, q2, q3, q4⟩ := hs i x k hlt hx (hp _ List.mem_cons_self) hk (by omega)
    obtain ⟨y, k2, r1, r2, r3, r4⟩ := ih (i + 1) (x.set i e) k1 (by omega) (by rw [List.length_set]; exact hx) (fun c hc => by
      rw [List.drop_set_of_lt (by omega)] at hc
      exact hp c (List.mem_cons_of_mem _ hc)) (by omega) (by omega)
    rw [List.length_set] at r1
    exact ⟨y, k2, r1, by rw [q2, r2], by omega, by rw [e1]; omega⟩
theorem markChangeS (a : Bool × List DChange) (k : Int) (hl : a.2.length ≤ 1048576) (hs : ∀ c ∈ a.2, SmChange c) (h0 : 0 ≤ k) (hk : k + 1048576 * 2097153 ≤ 4000000000000000000) : ∃ y k', y.length = a.2.length ∧ laws_markChangeS a k = some ((a.1, y), k') ∧ k ≤ k' ∧ k' ≤ k + 1048576 * 2097153 := by
  obtain ⟨y, k', h1, h2, h3, h4⟩ := loop_mark SmChange 2097153 (by omega) laws_markChangeS_L0 a.1 a.2.length (fun i x k h hx hp hk hk2 => by
    have hw : IntKind.i64.wrap (k + 1) = k + 1 := wr (by omega)
    obtain ⟨y, k', q1, q2, q3, q4⟩ := markNodeS x[i].2 (k + 1) hp (by omega) (by omega)
    refine ⟨(k, (x[i].2.1, y)), k', ?_, by omega, by omega⟩
    have e0 : x.getD i (0, (true, [])) = x[i] := by simp [List.getD_eq_getElem?_getD, h]
    have e1 : (x.set i (k, x[i].2)).getD i (0, (true, [])) = (k, x[i].2) := getD_set_self x i _ _ h
    rw [laws_markChangeS_L0_eq, gT (by simp only; omega), gT (by omega), gT (by simp only; omega), gT (by omega), gT (by rw [List.length_set]; simp only; omega), up1 i (by omega), hw]
    have q2' : laws_markNodeS (x[i].2.1, x[i].2.2) (k + 1) = some ((x[i].2.1, y), k') := q2
    simp only [Int.toNat_natCast, e0, e1, q2', some_bind, bind_id, List.set_set]) (fun x k hx => by rw [laws_markChangeS_L0_eq, gF (by simp only; omega)]) a.2.length 0 a.2 k (by omega) rfl (by simpa using hs) h0 (by omega)
  have h' : laws_markChangeS_L0 (a.1, a.2) k 0 = _ := h2
  exact ⟨y, k', h1, by rw [laws_markChangeS_eq, h', some_bind], h3, by omega⟩
theorem markCommandS (a : Bool × List DCommand) (k : Int) (hl : a.2.length ≤ 1048576) (hs : ∀ c ∈ a.2, SmCommand c) (h0 : 0 ≤ k) (hk : k + 1048576 * 2199026401280 ≤ 4000000000000000000) : ∃ y k', y.length = a.2.length ∧ laws_markCommandS a k = some ((a.1, y), k') ∧ k ≤ k' ∧ k' ≤ k + 1048576 * 2199026401280 := by
  obtain ⟨y, k', h1, h2, h3, h4⟩ := loop_mark SmCommand 2199026401280 (by omega) laws_markCommandS_L0 a.1 a.2.length (fun i x k h hx hp hk hk2 => by
    obtain ⟨y, k1, q1, q2, q3, q4⟩ := markNodeS x[i].1 k hp.1 (by omega) (by omega)
    obtain ⟨z, k2, r1, r2, r3, r4⟩ := markChangeS x[i].2 k1 hp.2.1 hp.2.2 (by omega) (by omega)
    refine ⟨((x[i].1.1, y), (x[i].2.1, z)), k2, ?_, by omega, by omega⟩
    have e0 : x.getD i ((true, []), (true, [])) = x[i] := by simp [List.getD_eq_getElem?_getD, h]
    have e1 : (x.set i ((x[i].1.1, y), x[i].2)).getD i ((true, []), (true, [])) = ((x[i].1.1, y), x[i].2) := getD_set_self x i _ _ h
    have q2' : laws_markNodeS (x[i].1.1, x[i].1.2) k = some ((x[i].1.1, y), k1) := q2
    have r2' : laws_markChangeS (x[i].2.1, x[i].2.2) k1 = some ((x[i].2.1, z), k2) := r2
    rw [laws_markCommandS_L0_eq, gT (by simp only; omega), gT (by omega), gT (by simp only; omega), up1 i (by omega)]
    simp only [Int.toNat_natCast, e0, q2', some_bind]
    rw [gT (by omega), gT (by omega)]
    simp only [e1, r2', some_bind, bind_id, List.set_set]) (fun x k hx => by rw [laws_markCommandS_L0_eq, gF (by simp only; omega)]) a.2.length 0 a.2 k (by omega) rfl (by simpa using hs) h0 (by omega)
  have h' : laws_markCommandS_L0 (a.1, a.2) k 0 = _ := h2
  exact ⟨y, k', h1, by rw [laws_markCommandS_eq, h', some_bind], h3, by omega⟩
/-- the laws write over their own copy of a program -/
theorem markProgram (p : DProgram) (hs : SmProgram p) (k : Int) (h0 : 0 ≤ k) (hk : k ≤ 1000000000) : ∃ y z k', laws_markProgram p.1 p.2.1 (p.2.2.1.1, p.2.2.1.2) (p.2.2.2.1, p.2.2.2.2) k = some (y, (z, k')) ∧ k ≤ k' ∧ k' ≤ 3000000000000000000 := by
  obtain ⟨y, k1, q1, q2, q3, q4⟩ := markNodeS p.2.2.1 k hs.1 (by omega) (by omega)
  obtain ⟨z, k2, r1, r2, r3, r4⟩ := markCommandS p.2.2.2 k1 hs.2.1 hs.2.2 (by omega) (by omega)
  have q2' : laws_markNodeS (p.2.2.1.1, p.2.2.1.2) k = _ := q2
  have r2' : laws_markCommandS (p.2.2.2.1, p.2.2.2.2) k1 = _ := r2
  exact ⟨_, _, k2, by rw [laws_markProgram_eq, q2', some_bind, r2', some_bind], by omega, by omega⟩
theorem heldNodeS_L0 (d : Nat) : ∀ (i : Nat) (b : Bool) (x : List DNode) (k : Int), i + d = x.length → x.length ≤ 1048576 → 0 ≤ k → k + 2 * d ≤ 4000000000000000000 → x.drop i = countN k d → laws_heldNodeS_L0 (b, x) k (i : Int) = some (.inr (k + 2 * d)) := by
  induction d with
  | zero =>
    intro i b x k hi hl hk hk2 hx
    rw [laws_heldNodeS_L0_eq, gF (by simp only; omega)]
    simp
  | succ d ih =>
    intro i b x k hi hl hk hk2 hx
    have hlt : i < x.length := by omega
    have hw : IntKind.i64.wrap (k + 1) = k + 1 := wr (by omega)
    rw [List.drop_eq_getElem_cons hlt, countN] at hx
    obtain ⟨hx1, hx2⟩ := List.cons.inj hx
    rw [laws_heldNodeS_L0_eq, gT (by simp only; omega), gT (by omega), gT (by simp only; omega), getD_at x _ i hlt, hx1, bF (by simp), gT (by omega), gT (by simp only; omega), hw, bF (by simp), up1 i (by omega), wr (by omega), bind_id, show k + 1 + 1 = k + 2 by omega, ih (i + 1) b x (k + 2) (by omega) hl (by omega) (by omega) hx2]
    congr 2
    omega
theorem heldNodeS (b : Bool) (n : Nat) (k : Int) (hl : n ≤ 1048576) (h0 : 0 ≤ k) (hk : k + 2 * n ≤ 4000000000000000000) : laws_heldNodeS (b, countN k n) k = some (k + 2 * n) := by
  have h1 := countN_length n k
  have := heldNodeS_L0 n 0 b (countN k n) k (by omega) (by omega) h0 (by omega) rfl
  have h' : laws_heldNodeS_L0 (b, countN k n) k 0 = _ := this
  rw [laws_heldNodeS_eq, h', some_bind]
/-- What an operation needs: how many operands, their kind, its own kind. -/
def need (op : Int) : Int × Int × Int :=
  if op = 1 ∨ op = 2 then (0, 1, 1) else if op = 20 then (0, 2, 2) else if op = 13 then (1, 1, 1) else if op = 19 then (1, 2, 2)
  else if 3 ≤ op ∧ op ≤ 12 then (2, 1, 1) else if 14 ≤ op ∧ op ≤ 16 then (2, 1, 2) else if op = 17 ∨ op = 18 then (2, 2, 2) else (0, 0, 0)
theorem need_cases (op : Int) : need op = (0, 1, 1) ∨ need op = (0, 2, 2) ∨ need op = (1, 1, 1) ∨ need op = (1, 2, 2) ∨ need op = (2, 1, 1) ∨ need op = (2, 1, 2) ∨ need op = (2, 2, 2) ∨ need op = (0, 0, 0) := by
  unfold need
  repeat' split
  all_goals simp
theorem need_two (op : Int) : ∃ m : Nat, (need op).1 = (m : Int) ∧ m ≤ 2 := by
  rcases need_cases op with h | h | h | h | h | h | h | h <;> rw [h]
  · exact ⟨0, rfl, by omega⟩
  · exact ⟨0, rfl, by omega⟩
  · exact ⟨1, rfl, by omega⟩
  · exact ⟨1, rfl, by omega⟩
  · exact ⟨2, rfl, by omega⟩
  · exact ⟨2, rfl, by omega⟩
  · exact ⟨2, rfl, by omega⟩
  · exact ⟨0, rfl, by omega⟩
theorem l2Need (op : Int) : spec_l2Need op = some (need op) := by
  rw [spec_l2Need_eq, l1In_eq, l1In_eq]
  unfold need
  by_cases h1 : op = 1
  · simp [h1]
  · by_cases h2 : op = 2
    · simp [h2]
    · by_cases h3 : op = 20
      · simp [h3]
      · by_cases h4 : op = 13
        · simp [h4]
        · by_cases h5 : op = 19
          · simp [h5]
          · by_cases h6 : 3 ≤ op ∧ op ≤ 12
            · simp [h1, beqF h1, h2, beqF h2, h3, beqF h3, h4, beqF h4, h5, beqF h5, h6]
            · by_cases h8 : 14 ≤ op ∧ op ≤ 16
              · have h6' : ¬ (3 ≤ op ∧ op ≤ 12) := h6
                simp [h1, beqF h1, h2, beqF h2, h3, beqF h3, h4, beqF h4, h5, beqF h5, h6', h8]
              · by_cases h10 : op = 17
                · simp [h10]
                · by_cases h11 : op = 18
                  · simp [h11]
                  · have h6' : ¬ (3 ≤ op ∧ op ≤ 12) := h6
                    have h8' : ¬ (14 ≤ op ∧ op ≤ 16) := h8
                    simp [h1, beqF h1, h2, beqF h2, h3, beqF h3, h4, beqF h4, h5, beqF h5, h6', h8', h10, beqF h10, h11, beqF h11]
/-- The program names no kind for an operation without operands. -/
def needI (op : Int) : Int × Int × Int := if op = 1 ∨ op = 2 then (0, 0, 1) else if op = 20 then (0, 0, 2) else need op
theorem operandsOf (op : Int) : impl_operandsOf op = some (needI op) := by
  rw [impl_operandsOf_eq]
  unfold needI need
  by_cases h1 : op = 1
  · simp [h1]
  · by_cases h2 : op = 2
    · simp [h2]
    · by_cases h3 : op = 20
      · simp [h3]
      · by_cases h4 : op = 13
        · simp [h4]
        · by_cases h5 : op = 19
          · simp [h5]
          · by_cases h6 : 3 ≤ op
            · by_cases h7 : op ≤ 12
              · simp [h1, beqF h1, h2, beqF h2, h3, beqF h3, h4, beqF h4, h5, beqF h5, h6, h7]
              · by_cases h8 : 14 ≤ op
                · by_cases h9 : op ≤ 16
                  · simp [h1, beqF h1, h2, beqF h2, h3, beqF h3, h4, beqF h4, h5, beqF h5, h6, h7, h8, h9]
                  · by_cases h10 : op = 17
                    · simp [h10]
                    · by_cases h11 : op = 18
                      · simp [h11]
                      · simp [h1, beqF h1, h2, beqF h2, h3, beqF h3, h4, beqF h4, h5, beqF h5, h6, h7, h8, h9, h10, beqF h10, h11, beqF h11]
                · have h10 : ¬ op = 17 := by omega
                  have h11 : ¬ op = 18 := by omega
                  simp [h1, beqF h1, h2, beqF h2, h3, beqF h3, h4, beqF h4, h5, beqF h5, h6, h7, h8, h10, beqF h10, h11, beqF h11]
            · have h8 : ¬ 14 ≤ op := by omega
              have h10 : ¬ op = 17 := by omega
              have h11 : ¬ op = 18 := by omega
              simp [h1, beqF h1, h2, beqF h2, h3, beqF h3, h4, beqF h4, h5, beqF h5, h6, h8, h10, beqF h10, h11, beqF h11]
theorem needI_parts (op : Int) : (needI op).1 = (need op).1 ∧ (needI op).2.2 = (need op).2.2 ∧ ((need op).1 = 0 ∨ (needI op).2.1 = (need op).2.1) := by
  unfold needI
  by_cases h1 : op = 1 ∨ op = 2
  · simp [need, h1]
  · by_cases h2 : op = 20
    · simp [need, h2]
    · simp [h1, h2]
/-- Is an operation's number right? -/
def leafOk (wide vars op n : Int) : Bool := if op = 1 then goodWord wide n else if op = 2 then decide (n < vars) else if op = 20 then decide (n < 2) else n == 0
theorem l2N (wide vars : Int) (x : DNode) (hv : 0 ≤ vars ∧ vars ≤ 4) (h : U64 x.2) : spec_l2N wide vars x = some (leafOk wide vars x.1 x.2) := by
  rw [spec_l2N_eq, spec_goodWord wide x.2 h, wru (by omega)]
  unfold leafOk
  by_cases a1 : x.1 = 1
  · simp [a1]
  · by_cases a2 : x.1 = 2
    · simp [a2]
    · by_cases a3 : x.1 = 20
      · simp [a3]
      · simp [a1, a2, a3, beqF a1, beqF a2, beqF a3]
theorem isLeafRight (wide vars : Int) (x : DNode) (hv : 0 ≤ vars ∧ vars ≤ 4) : impl_isLeafRight wide vars x = some (leafOk wide vars x.1 x.2) := by
  rw [impl_isLeafRight_eq, impl_goodWord wide x.2, wru (by omega)]
  unfold leafOk
  by_cases a1 : x.1 = 1
  · simp [a1]
  · by_cases a2 : x.1 = 2
    · simp [a2]
    · by_cases a3 : x.1 = 20
      · simp [a3]
        omega
      · simp [a1, a2, a3, beqF a1, beqF a2, beqF a3]
/-- One operation on the stack of kinds. -/
def kstep (wide vars : Int) (st : List Int) (x : DNode) : Option (List Int) :=
  if (need x.1).2.2 = 0 then none else if leafOk wide vars x.1 x.2 = true then
    (if (st.length : Int) < (need x.1).1 then none else if (st.drop (st.length - (need x.1).1.toNat)).all (fun y => y == (need x.1).2.1) = true then some (st.take (st.length - (need x.1).1.toNat) ++ [(need x.1).2.2]) else none)
  else none
def kfold (wide vars : Int) : List DNode → List Int → Option (List Int)
  | [], st => some st
  | x :: xs, st => (kstep wide vars st x).bind (kfold wide vars xs)
/-- A term's kind: 0 for none. -/
def kindT (wide vars : Int) (t : List DNode) : Int :=
  if 1 ≤ wide ∧ wide ≤ 64 ∧ 1 ≤ vars ∧ vars ≤ 4 ∧ 1 ≤ t.length ∧ t.length ≤ 48 then (match kfold wide vars t [] with
    | some [a] => a
    | _ => 0) else 0
theorem l2Kind_L2 (wide vars part own n i : Int) (t : Bool × List DNode) (m : Nat) : ∀ (b : Bool) (st : List Int), m ≤ st.length → st.length < 1000 →
    spec_l2Kind_L2 wide vars (b, st) (m : Int) part own t n i = if (st.drop (st.length - m)).all (fun y => y == part) = true then some (.inr (b, st.take (st.length - m))) else some (.inl 0) := by
  induction m with
  | zero =>
    intro b st hm hs
    rw [spec_l2Kind_L2_eq, gF (by omega)]
    simp
  | succ m ih =>
    intro b st hm hs
    rcases List.eq_nil_or_concat st with rfl | ⟨st', a, rfl⟩
    · simp at hm
    · rw [List.concat_eq_append] at *
      simp only [List.length_append, List.length_singleton] at hm hs ⊢
      have e1 : IntKind.i64.wrap (((st'.length + 1 : Nat) : Int) - 1) = (st'.length : Int) := by rw [wr (by omega)]; omega
      have e2 : IntKind.i64.wrap (((m + 1 : Nat) : Int) - 1) = (m : Int) := by rw [wr (by omega)]; omega
      have e3 : (st' ++ [a]).getD (Int.toNat (st'.length : Int)) 0 = a := by
        rw [getD_at _ _ _ (by simp)]
        simp
      have e4 : (st' ++ [a]).take st'.length = st' := List.take_left' rfl
      rw [spec_l2Kind_L2_eq]
      simp only [List.length_append, List.length_singleton]
      rw [e1, e2, e3, gT (by omega), gT (by omega), gT (by omega), gT (by omega), gT (by omega), Int.toNat_natCast, e4, List.drop_zero, bind_id,
        show st'.length + 1 - (m + 1) = st'.length - m by omega, List.drop_append_of_le_length (by omega), List.all_append, List.take_append_of_le_length (by omega)]
      by_cases ha : a = part
      · rw [bF (by simp [ha]), ih b st' (by omega) (by omega)]
        simp [ha]
      · rw [bT (by simp [ha])]
        simp [ha]
theorem l2Kind_L0 (wide vars : Int) (t : Bool × List DNode) (ht : t.2.length ≤ 48) (hv : 0 ≤ vars ∧ vars ≤ 4) (hw : ∀ x ∈ t.2, U64 x.2) (d : Nat) : ∀ (i : Nat) (b : Bool) (st : List Int), i + d = t.2.length → st.length ≤ i →
    (kfold wide vars (t.2.drop i) st = none ∧ spec_l2Kind_L0 wide vars (b, st) t (t.2.length : Int) (i : Int) = some (.inl 0)) ∨ ∃ b' s, kfold wide vars (t.2.drop i) st = some s ∧ spec_l2Kind_L0 wide vars (b, st) t (t.2.length : Int) (i : Int) = some (.inr (b', s)) := by
  induction d with
  | zero =>
    intro i b st hi hs
    rw [spec_l2Kind_L0_eq, gF (by omega), List.drop_of_length_le (by omega)]
    exact .inr ⟨b, st, rfl, rfl⟩
  | succ d ih =>
    intro i b st hi hs
    have hlt : i < t.2.length := by omega
    have hx := hw _ (List.getElem_mem hlt)
    have hlim : lim = 1099511627776 := rfl
    rw [spec_l2Kind_L0_eq, gT (by omega), gT (by omega), gT (by omega), getD_at t.2 _ i hlt, l2Need, some_bind, List.drop_eq_getElem_cons hlt]
    simp only [kfold, kstep]
    rw [l2N wide vars _ hv hx]
    by_cases h0 : (need t.2[i].1).2.2 = 0
    · rw [bT (by simp [h0]), if_pos h0]; exact .inl ⟨rfl, rfl⟩
    · rw [bF (by simp [h0]), if_neg h0, some_bind]
      cases hl : leafOk wide vars t.2[i].1 t.2[i].2 with
      | false => exact .inl ⟨rfl, rfl⟩
      | true =>
        rw [bF (by simp), if_pos rfl]
        by_cases hn : (st.length : Int) < (need t.2[i].1).1
        · rw [gT hn, if_pos hn]; exact .inl ⟨rfl, rfl⟩
        · rw [gF hn, if_neg hn]
          obtain ⟨m, hm, hm2⟩ := need_two t.2[i].1
          rw [hm] at hn ⊢
          rw [Int.toNat_natCast, l2Kind_L2 wide vars _ _ _ _ t m b st (by omega) (by omega)]
          by_cases ha : (st.drop (st.length - m)).all (fun y => y == (need t.2[i].1).2.1) = true
          · rw [if_pos ha, if_pos ha]
            simp only [some_bind]
            rw [gT (by simp; omega), up1 i (by omega), bind_id]
            exact ih (i + 1) _ _ (by omega) (by simp; omega)
          · rw [if_neg ha, if_neg ha, some_bind]
            exact .inl ⟨rfl, rfl⟩
theorem l2Kind (wide vars : Int) (t : Bool × List DNode) (hw : ∀ x ∈ t.2, U64 x.2) : spec_l2Kind wide vars t = some (kindT wide vars t.2) := by
  rw [spec_l2Kind_eq, l1Wide_eq, l1In_eq, l1In_eq, some_bind, some_bind, some_bind]
  unfold kindT
  by_cases h1 : 1 ≤ wide ∧ wide ≤ 64
  · by_cases h3 : 1 ≤ vars ∧ vars ≤ 4
    · by_cases h5 : 1 ≤ (t.2.length : Int) ∧ (t.2.length : Int) ≤ 48
      · rw [bF (by simp [h1]), bF (by simp [h3]), bF (by simp; omega), if_pos (by omega)]
        rcases l2Kind_L0 wide vars t (by omega) (by omega) hw t.2.length 0 true [] (by omega) (by simp) with ⟨k1, k2⟩ | ⟨b, s, k1, k2⟩
        · rw [show ((0 : Nat) : Int) = 0 from rfl] at k2
          rw [k2, some_bind]
          rw [List.drop_zero] at k1
          rw [k1]
        · rw [show ((0 : Nat) : Int) = 0 from rfl] at k2
          rw [k2, some_bind]
          rw [List.drop_zero] at k1
          rw [k1]
          match s with
          | [] => simp
          | [a] => simp
          | a :: b :: st =>
            have : (((a :: b :: st).length : Int) != 1) = true := by simp; omega
            simp only
            rw [bT this]
      · rw [bF (by simp [h1]), bF (by simp [h3]), bT (by simp; omega), if_neg (by omega)]
    · rw [bF (by simp [h1]), bT (by simp; omega), if_neg (by omega)]
  · rw [bT (by simp; omega), if_neg (by omega)]
theorem kindT_in {wide vars : Int} {t : List DNode} (h : kindT wide vars t ≠ 0) : 1 ≤ wide ∧ wide ≤ 64 ∧ 1 ≤ vars ∧ vars ≤ 4 ∧ 1 ≤ t.length ∧ t.length ≤ 48 := by
  unfold kindT at h
  split at h
  · assumption
  · exact absurd rfl h
theorem kfold_last (wide vars : Int) : ∀ (xs : List DNode) (st r : List Int), kfold wide vars xs st = some r → ∀ h : xs ≠ [], (∃ r', r = r' ++ [(need (xs.getLast h).1).2.2]) ∧ (need (xs.getLast h).1).2.2 ≠ 0 := by
  intro xs
  induction xs with
  | nil => intro st r _ h; exact absurd rfl h
  | cons x xs ih =>
    intro st r hr h
    simp only [kfold, Option.bind_eq_some_iff] at hr
    obtain ⟨s, h1, h2⟩ := hr
    cases xs with
    | nil =>
      simp only [kfold, Option.some.injEq] at h2
      subst h2
      simp only [List.getLast_singleton]
      unfold kstep at h1
      split at h1
      · simp at h1
      · rename_i hne
        split at h1
        · split at h1
          · simp at h1
          · split at h1
            · simp only [Option.some.injEq] at h1
              exact ⟨⟨_, h1.symm⟩, hne⟩
            · simp at h1
        · simp at h1
    | cons y ys =>
      have := ih s r h2 (by simp)
      rwa [List.getLast_cons (by simp)]
/-- a good term's kind is its last operation's -/
theorem kindT_last {wide vars : Int} {t : List DNode} (h : kindT wide vars t ≠ 0) (hne : t ≠ []) : kfold wide vars t [] = some [kindT wide vars t] ∧ kindT wide vars t = (need (t.getLast hne).1).2.2 := by
  unfold kindT at h ⊢
  split at h
  · rename_i hc
    rw [if_pos hc]
    split at h
    · rename_i a ha
      obtain ⟨⟨r', e⟩, h0⟩ := kfold_last wide vars t [] [a] ha hne
      have hr : r' = [] := by
        have := congrArg List.length e
        simp at this
        exact this
      subst hr
      rw [ha]
      exact ⟨rfl, by simpa using e⟩
    · exact absurd rfl h
  · exact absurd rfl h
theorem kindT_pos {wide vars : Int} {t : List DNode} (h : kindT wide vars t ≠ 0) : kindT wide vars t = 1 ∨ kindT wide vars t = 2 := by
  have hne : t ≠ [] := by
    intro e
    subst e
    exact h (by simp [kindT])
  have := (kindT_last h hne).2
  rw [this] at h ⊢
  rcases need_cases (t.getLast hne).1 with h1 | h1 | h1 | h1 | h1 | h1 | h1 | h1 <;> rw [h1] at h ⊢ <;> simp at h ⊢
theorem contains_kind (b : Bool) (l : List Int) (a : Int) (hl : l.length ≤ 1000) : slices_ContainsFunc_int_by_GoodTerm_1 (b, l) (a, ()) = some (l.any fun y => a != y) := by
  rw [slices_ContainsFunc_int_by_GoodTerm_1_eq, slices_IndexFunc_int_by_GoodTerm_1_eq]
  exact contains_of (loop_find l (fun y => a != y) (fun i => slices_IndexFunc_int_by_GoodTerm_1_L0 (b, l) (a, ()) (l.length : Int) i) (fun i h => by
    rw [slices_IndexFunc_int_by_GoodTerm_1_L0_eq, gT (by omega), gT (by omega), gT (by simp only; omega), getD_at l _ i h, impl_GoodTerm_1_eq, some_bind, up1 i (by omega), bind_id]
    simp only [bne_comm]) (by rw [slices_IndexFunc_int_by_GoodTerm_1_L0_eq, gF (by omega)]))
theorem goodTerm_L0 (wide vars : Int) (t : Bool × List DNode) (ht : t.2.length ≤ 48) (hv : 0 ≤ vars ∧ vars ≤ 4) (d : Nat) : ∀ (i : Nat) (b : Bool) (st : List Int), i + d = t.2.length → st.length ≤ i →
    (kfold wide vars (t.2.drop i) st = none ∧ impl_GoodTerm_L0 wide vars (b, st) t (t.2.length : Int) (i : Int) = some (.inl false)) ∨ ∃ b' s, kfold wide vars (t.2.drop i) st = some s ∧ impl_GoodTerm_L0 wide vars (b, st) t (t.2.length : Int) (i : Int) = some (.inr (b', s)) := by
  induction d with
  | zero =>
    intro i b st hi hs
    rw [impl_GoodTerm_L0_eq, gF (by omega), List.drop_of_length_le (by omega)]
    exact .inr ⟨b, st, rfl, rfl⟩
  | succ d ih =>
    intro i b st hi hs
    have hlt : i < t.2.length := by omega
    obtain ⟨p1, p2, p3⟩ := needI_parts t.2[i].1
    have hlim : lim = 1099511627776 := rfl
    rw [impl_GoodTerm_L0_eq, gT (by omega), gT (by omega), gT (by omega), getD_at t.2 _ i hlt, operandsOf, some_bind, List.drop_eq_getElem_cons hlt, isLeafRight wide vars _ hv, p1, p2]
    simp only [kfold]
    obtain ⟨m, hm, hm2⟩ := need_two t.2[i].1
    rw [hm]
    by_cases h0 : (need t.2[i].1).2.2 = 0
    · rw [bT (by simp [h0])]; exact .inl ⟨by simp [kstep, h0], rfl⟩
    · rw [bF (by simp [h0]), some_bind]
      cases hl : leafOk wide vars t.2[i].1 t.2[i].2 with
      | false => exact .inl ⟨by simp [kstep, hl, h0], rfl⟩
      | true =>
        rw [bF (by simp)]
        by_cases hn : (st.length : Int) < (m : Int)
        · rw [wr (by omega), gT (by omega)]
          exact .inl ⟨by simp [kstep, hl, h0, hm, hn], rfl⟩
        · have e : IntKind.i64.wrap ((st.length : Int) - (m : Int)) = ((st.length - m : Nat) : Int) := by rw [wr (by omega)]; omega
          have ek : kstep wide vars st t.2[i] = if (st.drop (st.length - m)).all (fun y => y == (need t.2[i].1).2.1) = true then some (st.take (st.length - m) ++ [(need t.2[i].1).2.2]) else none := by
            unfold kstep
            rw [if_neg h0, if_pos hl, hm, if_neg hn, Int.toNat_natCast]
          have ea : (st.drop (st.length - m)).any (fun y => (needI t.2[i].1).2.1 != y) = !(st.drop (st.length - m)).all (fun y => y == (need t.2[i].1).2.1) := by
            rcases p3 with p3 | p3
            · have : m = 0 := by omega
              subst this
              simp
            · rw [p3, List.not_all_eq_any_not]
              congr 1
              funext y
              rw [bne, Bool.beq_comm]
          rw [e, gF (by omega), gT (by omega), gT (by omega), Int.toNat_natCast, List.take_length, contains_kind b (st.drop (st.length - m)) _ (by simp; omega), some_bind, ea, ek]
          cases ha : (st.drop (st.length - m)).all (fun y => y == (need t.2[i].1).2.1) with
          | false => exact .inl ⟨rfl, rfl⟩
          | true =>
            rw [bF (by simp), gT (by omega), gT (by omega), gT (by simp; omega), up1 i (by omega), bind_id, if_pos rfl, List.drop_zero]
            simp only [some_bind]
            exact ih (i + 1) _ _ (by omega) (by simp; omega)
theorem isVars_eq (n : Int) : impl_isVars n = some (decide (1 ≤ n ∧ n ≤ 4)) := by
  rw [impl_isVars_eq]
  by_cases h : n ≥ 1
  · rw [gT h]; congr 1; apply decide_eq_decide.mpr; omega
  · rw [gF h]; congr 1; symm; apply decide_eq_false; omega
theorem goodTerm (wide vars : Int) (t : Bool × List DNode) : impl_GoodTerm wide vars t = some (kindT wide vars t.2 != 0) := by
  rw [impl_GoodTerm_eq, isWide_eq, isVars_eq, some_bind, some_bind]
  by_cases h1 : 1 ≤ wide ∧ wide ≤ 64
  · by_cases h3 : 1 ≤ vars ∧ vars ≤ 4
    · by_cases h5 : (t.2.length : Int) < 1
      · rw [bF (by simp [h1]), bF (by simp [h3]), gT h5]
        unfold kindT; rw [if_neg (by omega)]; rfl
      · by_cases h6 : (t.2.length : Int) > 48
        · rw [bF (by simp [h1]), bF (by simp [h3]), gF h5, gT h6]
          unfold kindT; rw [if_neg (by omega)]; rfl
        · rw [bF (by simp [h1]), bF (by simp [h3]), gF h5, gF h6]
          have hc : 1 ≤ wide ∧ wide ≤ 64 ∧ 1 ≤ vars ∧ vars ≤ 4 ∧ 1 ≤ t.2.length ∧ t.2.length ≤ 48 := by omega
          have hne : t.2 ≠ [] := by intro h; rw [h] at h5; simp at h5
          rcases goodTerm_L0 wide vars t (by omega) (by omega) t.2.length 0 false [] (by omega) (by simp) with ⟨k1, k2⟩ | ⟨b, s, k1, k2⟩
          · rw [show ((0 : Nat) : Int) = 0 from rfl] at k2
            rw [k2, some_bind]
            rw [List.drop_zero] at k1
            unfold kindT
            rw [if_pos hc, k1]
            rfl
          · rw [show ((0 : Nat) : Int) = 0 from rfl] at k2
            rw [k2, some_bind]
            rw [List.drop_zero] at k1
            obtain ⟨⟨r', e⟩, hne0⟩ := kfold_last wide vars t.2 [] s k1 hne
            unfold kindT
            rw [if_pos hc, k1]
            match s, e with
            | [], e => rfl
            | [a], e =>
              have hr : r' = [] := by
                have := congrArg List.length e
                simp at this
                exact this
              subst hr
              simp at e
              rw [← e] at hne0
              simp [hne0]
            | a :: b :: c, e =>
              simp
              omega
    · rw [bF (by simp [h1]), bT (by simp; omega)]
      unfold kindT; rw [if_neg (by omega)]; rfl
  · rw [bT (by simp; omega)]
    unfold kindT; rw [if_neg (by omega)]; rfl
theorem isTermOf (wide vars kd : Int) (t : Bool × List DNode) (h0 : kd ≠ 0) : impl_isTermOf wide vars t kd = some (kindT wide vars t.2 == kd) := by
  rw [impl_isTermOf_eq, goodTerm, some_bind]
  by_cases hz : kindT wide vars t.2 = 0
  · rw [bF (by simp [hz]), hz]
    congr 1
    symm
    simp
    omega
  · have hne : t.2 ≠ [] := by
      intro h
      rw [h] at hz
      exact hz (by simp [kindT])
    have hin := kindT_in hz
    rw [bT (by simp [hz]), impl_kindOf_eq, dn1 _ (by omega) (by omega), gT (by omega), gT (by omega), getD_at _ _ _ (by omega), operandsOf, some_bind, some_bind]
    rw [(needI_parts _).2.1, (kindT_last hz hne).2, List.getLast_eq_getElem]
/-- terms of words -/
def WfN (t : List DNode) : Prop := ∀ x ∈ t, U64 x.2
def WfCh (c : DChange) : Prop := WfN c.2.2
def WfCm (c : DCommand) : Prop := WfN c.1.2 ∧ ∀ d ∈ c.2.2, WfCh d
def WfP (p : DProgram) : Prop := WfN p.2.2.1.2 ∧ ∀ c ∈ p.2.2.2.2, WfCm c
theorem WfD_nodes {a : Bool × List DNode} (w : WfD (.sl tyNode) a) : WfN a.2 := fun x hx => WfD_u64 (w.2.2 x hx).2
theorem WfD_prog {p : DProgram} (w : WfD tyProgram p) : WfP p := by
  obtain ⟨_, _, h1, h2⟩ := w
  refine ⟨WfD_nodes h1, fun c hc => ?_⟩
  obtain ⟨h3, h4⟩ := h2.2.2 c hc
  exact ⟨WfD_nodes h3, fun d hd => WfD_nodes (h4.2.2 d hd).2⟩
theorem WfP_cp {p : DProgram} (w : WfP p) : WfP (cpProgram p) := by
  refine ⟨w.1, fun c hc => ?_⟩
  obtain ⟨c0, h1, rfl⟩ := List.mem_map.1 hc
  obtain ⟨q1, q2⟩ := w.2 c0 h1
  refine ⟨q1, fun d hd => ?_⟩
  obtain ⟨d0, h2, rfl⟩ := List.mem_map.1 hd
  exact q2 d0 h2
/-- Are changes right, the variable before them being p? -/
def chgOk (wide vars : Int) : Int → List DChange → Bool
  | _, [] => true
  | p, c :: cs => decide (p < c.1) && decide (c.1 < vars) && (kindT wide vars c.2.2 == 1) && chgOk wide vars c.1 cs
theorem chgOk_len (wide vars : Int) : ∀ (l : List DChange) (p : Int), p < vars → chgOk wide vars p l = true → p + (l.length : Int) < vars := by
  intro l
  induction l with
  | nil => intro p h _; simpa using h
  | cons c cs ih =>
    intro p h hc
    simp only [chgOk, Bool.and_eq_true, decide_eq_true_eq] at hc
    have := ih c.1 hc.1.1.2 hc.2
    simp only [List.length_cons]
    omega
def cmdOk (wide vars : Int) (c : DCommand) : Bool := (kindT wide vars c.1.2 == 2) && chgOk wide vars (-1) c.2.2
/-- The variable of the change before. -/
def before (l : List DChange) (i : Nat) : Int := if i = 0 then -1 else (l.getD (i - 1) (0, (true, []))).1
theorem before_succ (l : List DChange) (i : Nat) (h : i < l.length) : before l (i + 1) = l[i].1 := by
  simp [before, h]
theorem l7Command_L0 (p : DProgram) (c : DCommand) (hl : c.2.2.length ≤ 1048576) (hv : 1 ≤ p.2.1 ∧ p.2.1 ≤ 4) (hw : ∀ d ∈ c.2.2, WfCh d) (d : Nat) : ∀ (i : Nat), i + d = c.2.2.length → -1 ≤ before c.2.2 i →
    spec_l7Command_L0 p c c.2 (c.2.2.length : Int) (i : Int) = some (bif chgOk p.1 p.2.1 (before c.2.2 i) (c.2.2.drop i) then .inr () else .inl false) := by
  induction d with
  | zero =>
    intro i hi hb0
    rw [spec_l7Command_L0_eq, gF (by omega), List.drop_of_length_le (by omega)]
    rfl
  | succ d ih =>
    intro i hi hb0
    have hlt : i < c.2.2.length := by omega
    have hx := hw _ (List.getElem_mem hlt)
    have go := ih (i + 1) (by omega)
    rw [before_succ _ i hlt] at go
    rw [List.drop_eq_getElem_cons hlt, spec_l7Command_L0_eq, gT (by omega), gT (by omega), gT (by omega), getD_at _ _ i hlt, l1In_eq, some_bind, wr (by omega), up1 i (by omega), bind_id, l2Kind p.1 p.2.1 _ hx, some_bind]
    simp only [chgOk]
    by_cases h1 : 0 ≤ c.2.2[i].1 ∧ c.2.2[i].1 ≤ p.2.1 - 1
    · rw [bF (by simp [h1]), go (by omega)]
      have h3 : decide (c.2.2[i].1 < p.2.1) = true := by simp; omega
      rw [h3]
      by_cases hi0 : i = 0
      · subst hi0
        have hb : decide (before c.2.2 0 < c.2.2[0].1) = true := by simp [before]; omega
        rw [gF (by omega), hb]
        by_cases hk1 : kindT p.1 p.2.1 c.2.2[0].2.2 = 1
        · rw [bF (by simp [hk1])]; simp [hk1]
        · rw [bT (by simp [hk1])]; simp [beqF hk1]
      · have hb : before c.2.2 i = c.2.2[i - 1].1 := by
          simp only [before, if_neg hi0]
          rw [List.getD_eq_getElem?_getD]
          simp [show i - 1 < c.2.2.length by omega]
        rw [gT (by omega), dn1 i (by omega) (by omega), gT (by omega), gT (by omega), getD_at _ _ (i - 1) (by omega), hb]
        by_cases h4 : c.2.2[i - 1].1 ≥ c.2.2[i].1
        · have : decide (c.2.2[i - 1].1 < c.2.2[i].1) = false := by simp; omega
          rw [gT h4, this]; rfl
        · have : decide (c.2.2[i - 1].1 < c.2.2[i].1) = true := by simp; omega
          rw [gF h4, this]
          by_cases hk1 : kindT p.1 p.2.1 c.2.2[i].2.2 = 1
          · rw [bF (by simp [hk1])]; simp [hk1]
          · rw [bT (by simp [hk1])]; simp [beqF hk1]
    · rw [bT (by simp; omega)]
      have : (decide (before c.2.2 i < c.2.2[i].1) && decide (c.2.2[i].1 < p.2.1)) = false := by
        rw [← Bool.not_eq_true]
        simp
        omega
      rw [this]; rfl
theorem l7Asks (p : DProgram) (t : Bool × List DNode) (h : WfN t.2) : spec_l7Asks p t = some (kindT p.1 p.2.1 t.2 == 2) := by
  rw [spec_l7Asks_eq, l2Kind p.1 p.2.1 t h, some_bind]
theorem isCondition (p : DProgram) (t : Bool × List DNode) : impl_Program_isCondition p t = some (kindT p.1 p.2.1 t.2 == 2) := by
  rw [impl_Program_isCondition_eq, isTermOf _ _ _ _ (by omega), bind_id]
theorem l7Command (p : DProgram) (c : DCommand) (hl : c.2.2.length ≤ 1048576) (h : WfCm c) : spec_l7Command p c = some (cmdOk p.1 p.2.1 c) := by
  rw [spec_l7Command_eq, l7Asks p _ h.1, some_bind]
  unfold cmdOk
  by_cases h2 : kindT p.1 p.2.1 c.1.2 = 2
  · have hv := kindT_in (by rw [h2]; omega : kindT p.1 p.2.1 c.1.2 ≠ 0)
    rw [bF (by simp [h2]), h2]
    by_cases hn : (c.2.2.length : Int) > p.2.1
    · have : chgOk p.1 p.2.1 (-1) c.2.2 = false := by
        cases hc : chgOk p.1 p.2.1 (-1) c.2.2 with
        | false => rfl
        | true =>
          have := chgOk_len p.1 p.2.1 c.2.2 (-1) (by omega) hc
          omega
      rw [gT hn, this]; rfl
    · have := l7Command_L0 p c hl (by omega) h.2 c.2.2.length 0 (by omega) (by simp [before])
      rw [show ((0 : Nat) : Int) = 0 from rfl, List.drop_zero] at this
      rw [gF hn, this, some_bind]
      simp only [before, if_true]
      cases chgOk p.1 p.2.1 (-1) c.2.2 <;> rfl
  · rw [bT (by simp [h2]), beqF h2]; rfl
theorem isCommand_L0 (p : DProgram) (c : DCommand) (hl : c.2.2.length ≤ 1048576) (d : Nat) : ∀ (i : Nat), i + d = c.2.2.length → -1 ≤ before c.2.2 i →
    impl_Program_isCommand_L0 p c c.2 (c.2.2.length : Int) (i : Int) = some (bif chgOk p.1 p.2.1 (before c.2.2 i) (c.2.2.drop i) then .inr () else .inl false) := by
  induction d with
  | zero =>
    intro i hi hb0
    rw [impl_Program_isCommand_L0_eq, gF (by omega), List.drop_of_length_le (by omega)]
    rfl
  | succ d ih =>
    intro i hi hb0
    have hlt : i < c.2.2.length := by omega
    have go := ih (i + 1) (by omega)
    rw [before_succ _ i hlt] at go
    rw [List.drop_eq_getElem_cons hlt, impl_Program_isCommand_L0_eq, gT (by omega), gT (by omega), gT (by omega), getD_at _ _ i hlt, up1 i (by omega), bind_id, isTermOf _ _ _ _ (by omega), some_bind]
    simp only [chgOk]
    by_cases h1 : c.2.2[i].1 < 0
    · have : decide (before c.2.2 i < c.2.2[i].1) = false := by simp; omega
      rw [gT h1, this]; rfl
    · rw [gF h1, go (by omega)]
      by_cases h2 : c.2.2[i].1 ≥ p.2.1
      · have : decide (c.2.2[i].1 < p.2.1) = false := by simp; omega
        rw [gT h2, this, Bool.and_false]; rfl
      · have h3 : decide (c.2.2[i].1 < p.2.1) = true := by simp; omega
        rw [gF h2, h3]
        by_cases hi0 : i = 0
        · subst hi0
          have hb : decide (before c.2.2 0 < c.2.2[0].1) = true := by simp [before]; omega
          rw [gF (by omega), hb]
          by_cases hk1 : kindT p.1 p.2.1 c.2.2[0].2.2 = 1
          · rw [bF (by simp [hk1])]; simp [hk1]
          · rw [bT (by simp [hk1])]; simp [beqF hk1]
        · have hb : before c.2.2 i = c.2.2[i - 1].1 := by
            simp only [before, if_neg hi0]
            rw [List.getD_eq_getElem?_getD]
            simp [show i - 1 < c.2.2.length by omega]
          rw [gT (by omega), dn1 i (by omega) (by omega), gT (by omega), gT (by omega), getD_at _ _ (i - 1) (by omega), hb]
          by_cases h4 : c.2.2[i - 1].1 ≥ c.2.2[i].1
          · have : decide (c.2.2[i - 1].1 < c.2.2[i].1) = false := by simp; omega
            rw [gT h4, this]; rfl
          · have : decide (c.2.2[i - 1].1 < c.2.2[i].1) = true := by simp; omega
            rw [gF h4, this]
            by_cases hk1 : kindT p.1 p.2.1 c.2.2[i].2.2 = 1
            · rw [bF (by simp [hk1])]; simp [hk1]
            · rw [bT (by simp [hk1])]; simp [beqF hk1]
theorem isCommand (p : DProgram) (c : DCommand) (hl : c.2.2.length ≤ 1048576) : impl_Program_isCommand p c = some (cmdOk p.1 p.2.1 c) := by
  rw [impl_Program_isCommand_eq, isCondition, some_bind]
  unfold cmdOk
  by_cases h2 : kindT p.1 p.2.1 c.1.2 = 2
  · rw [bF (by simp [h2]), h2]
    have := isCommand_L0 p c hl c.2.2.length 0 (by omega) (by simp [before])
    rw [show ((0 : Nat) : Int) = 0 from rfl, List.drop_zero] at this
    rw [this, some_bind]
    simp only [before, if_true]
    cases chgOk p.1 p.2.1 (-1) c.2.2 <;> rfl
  · rw [bT (by simp [h2]), beqF h2]; rfl
def goodProgram (p : DProgram) : Bool := (kindT p.1 p.2.1 p.2.2.1.2 == 2) && (decide (1 ≤ p.2.2.2.2.length ∧ p.2.2.2.2.length ≤ 6) && p.2.2.2.2.all fun c => cmdOk p.1 p.2.1 c)
theorem goodProgram_in {p : DProgram} (h : goodProgram p = true) : 1 ≤ p.1 ∧ p.1 ≤ 64 ∧ 1 ≤ p.2.1 ∧ p.2.1 ≤ 4 := by
  simp only [goodProgram, Bool.and_eq_true, beq_iff_eq] at h
  have := kindT_in (t := p.2.2.1.2) (by rw [h.1]; decide)
  omega
theorem spec_goodProgram (p : DProgram) (hs : SmProgram p) (hw : WfP p) : spec_GoodProgram p = some (goodProgram p) := by
  obtain ⟨_, s2, s3⟩ := hs
  have := loop_all p.2.2.2.2 (fun c => cmdOk p.1 p.2.1 c) (.inr () : Bool ⊕ Unit) (.inl false) (fun i => spec_GoodProgram_L0 p p.2.2.2 (p.2.2.2.2.length : Int) i) (fun i h => by
    rw [spec_GoodProgram_L0_eq, gT (by omega), gT (by omega), gT (by omega), getD_at _ _ i h, l7Command p _ (s3 _ (List.getElem_mem h)).2.1 (hw.2 _ (List.getElem_mem h)), some_bind, up1 i (by omega), bind_id]
    cases cmdOk p.1 p.2.1 p.2.2.2.2[i] <;> rfl) (by
    rw [spec_GoodProgram_L0_eq, gF (by omega)])
  rw [spec_GoodProgram_eq, l7Asks p _ hw.1, some_bind, l1In_eq, some_bind, this]
  unfold goodProgram
  by_cases h2 : kindT p.1 p.2.1 p.2.2.1.2 = 2
  · by_cases h5 : 1 ≤ p.2.2.2.2.length ∧ p.2.2.2.2.length ≤ 6
    · rw [bF (by simp [h2]), bF (by simp; omega), h2]
      simp only [h5, and_self, decide_true, some_bind]
      cases p.2.2.2.2.all fun c => cmdOk p.1 p.2.1 c <;> rfl
    · rw [bF (by simp [h2]), bT (by simp; omega)]
      simp [h5]
  · rw [bT (by simp [h2]), beqF h2]; rfl
theorem contains_command (p : DProgram) (hs : SmProgram p) : slices_ContainsFunc_Command_by_GoodProgram_1 p.2.2.2 (p, ()) = some (p.2.2.2.2.any fun c => !cmdOk p.1 p.2.1 c) := by
  obtain ⟨_, s2, s3⟩ := hs
  rw [slices_ContainsFunc_Command_by_GoodProgram_1_eq, slices_IndexFunc_Command_by_GoodProgram_1_eq]
  exact contains_of (loop_find p.2.2.2.2 (fun c => !cmdOk p.1 p.2.1 c) (fun i => slices_IndexFunc_Command_by_GoodProgram_1_L0 p.2.2.2 (p, ()) (p.2.2.2.2.length : Int) i) (fun i h => by
    rw [slices_IndexFunc_Command_by_GoodProgram_1_L0_eq, gT (by omega), gT (by omega), gT (by omega), getD_at _ _ i h, impl_GoodProgram_1_eq, isCommand p _ (s3 _ (List.getElem_mem h)).2.1, some_bind, some_bind, up1 i (by omega), bind_id]) (by rw [slices_IndexFunc_Command_by_GoodProgram_1_L0_eq, gF (by omega)]))
theorem impl_goodProgram (p : DProgram) (hs : SmProgram p) : impl_GoodProgram p = some (goodProgram p) := by
  rw [impl_GoodProgram_eq, isWide_eq, some_bind, isVars_eq, some_bind, isCondition, some_bind, contains_command p hs, some_bind]
  unfold goodProgram
  by_cases h2 : kindT p.1 p.2.1 p.2.2.1.2 = 2
  · have hin := kindT_in (t := p.2.2.1.2) (by rw [h2]; decide)
    rw [bF (by simp; omega), bF (by simp; omega), bF (by simp [h2]), h2]
    by_cases h3 : (p.2.2.2.2.length : Int) < 1
    · have h5 : ¬ (1 ≤ p.2.2.2.2.length ∧ p.2.2.2.2.length ≤ 6) := by omega
      rw [gT h3]
      simp [h5]
    · by_cases h4 : (p.2.2.2.2.length : Int) > 6
      · have h5 : ¬ (1 ≤ p.2.2.2.2.length ∧ p.2.2.2.2.length ≤ 6) := by omega
        rw [gF h3, gT h4]
        simp [h5]
      · have h5 : 1 ≤ p.2.2.2.2.length ∧ p.2.2.2.2.length ≤ 6 := by omega
        rw [gF h3, gF h4]
        simp [h5, List.not_any_eq_all_not]
  · rw [beqF h2]
    by_cases a1 : 1 ≤ p.1 ∧ p.1 ≤ 64
    · by_cases a2 : 1 ≤ p.2.1 ∧ p.2.1 ≤ 4
      · rw [bF (by simp; omega), bF (by simp; omega), bT (by simp)]; rfl
      · rw [bF (by simp; omega), bT (by simp; omega)]; rfl
    · rw [bT (by simp; omega)]; rfl
theorem chgOk_in (wide vars : Int) : ∀ (l : List DChange) (p : Int), chgOk wide vars p l = true → ∀ d ∈ l, p < d.1 ∧ d.1 < vars ∧ kindT wide vars d.2.2 = 1 := by
  intro l
  induction l with
  | nil => intro p _ d hd; simp at hd
  | cons c cs ih =>
    intro p h d hd
    simp only [chgOk, Bool.and_eq_true, decide_eq_true_eq, beq_iff_eq] at h
    rcases List.mem_cons.1 hd with rfl | hd
    · exact ⟨h.1.1.1, h.1.1.2, h.1.2⟩
    · have := ih c.1 h.2 d hd
      exact ⟨by omega, this.2⟩
theorem cmd_in {p : DProgram} (h : goodProgram p = true) : ∀ c ∈ p.2.2.2.2, kindT p.1 p.2.1 c.1.2 = 2 ∧ ∀ d ∈ c.2.2, 0 ≤ d.1 ∧ d.1 < p.2.1 ∧ kindT p.1 p.2.1 d.2.2 = 1 := by
  intro c hc
  simp only [goodProgram, Bool.and_eq_true] at h
  have := (List.all_eq_true.1 h.2.2) c hc
  simp only [cmdOk, Bool.and_eq_true, beq_iff_eq] at this
  refine ⟨this.1, fun d hd => ?_⟩
  have := chgOk_in _ _ _ _ this.2 d hd
  exact ⟨by omega, this.2⟩
/-- Words of a width. -/
def W5 (wide a : Int) : Prop := 0 ≤ a ∧ a ≤ top wide
theorem W5.u64 {wide a : Int} (hw : 1 ≤ wide ∧ wide ≤ 64) (h : W5 wide a) : U64 a := ⟨h.1, by have := h.2; have := top_in hw; omega⟩
theorem kstep_some {wide vars : Int} {ks ks' : List Int} {x : DNode} (h : kstep wide vars ks x = some ks') :
    (need x.1).2.2 ≠ 0 ∧ leafOk wide vars x.1 x.2 = true ∧ (need x.1).1.toNat ≤ ks.length ∧ (ks.drop (ks.length - (need x.1).1.toNat)).all (fun y => y == (need x.1).2.1) = true ∧ ks' = ks.take (ks.length - (need x.1).1.toNat) ++ [(need x.1).2.2] := by
  unfold kstep at h
  split at h
  · simp at h
  · split at h
    · split at h
      · simp at h
      · split at h
        · rename_i h1 h2 h3 h4
          simp only [Option.some.injEq] at h
          refine ⟨h1, h2, ?_, h4, h.symm⟩
          obtain ⟨m, hm, _⟩ := need_two x.1
          rw [hm] at h3 ⊢
          omega
        · simp at h
    · simp at h
inductive TypedV (wide : Int) : List Int → List Int → Prop
  | nil : TypedV wide [] []
  | snoc {ks st : List Int} {k v : Int} : TypedV wide ks st → W5 wide v → (k = 2 → v ≤ 1) → TypedV wide (ks ++ [k]) (st ++ [v])
theorem TypedV.inv {wide : Int} {ks st : List Int} (h : TypedV wide ks st) : (ks = [] ∧ st = []) ∨ ∃ ks' st' k v, ks = ks' ++ [k] ∧ st = st' ++ [v] ∧ TypedV wide ks' st' ∧ W5 wide v ∧ (k = 2 → v ≤ 1) := by
  cases h with
  | nil => exact .inl ⟨rfl, rfl⟩
  | snoc h1 h2 h3 => exact .inr ⟨_, _, _, _, rfl, rfl, h1, h2, h3⟩
theorem TypedV.len {wide : Int} {ks st : List Int} (h : TypedV wide ks st) : ks.length = st.length := by
  induction h with
  | nil => rfl
  | snoc _ _ _ ih => simp [ih]
/-- the number of states -/
def manyS (p : DProgram) : Nat := 2 ^ (p.1 * p.2.1).toNat
theorem all_loop {α : Type} (l : List α) (q : α → Bool) (F : Int → Option (Bool ⊕ Unit))
    (hs : ∀ (i : Nat) (h : i < l.length), F (i : Int) = bif !q l[i] then some (.inl false) else F ((i + 1 : Nat) : Int)) (he : F (l.length : Int) = some (.inr ())) : F 0 = some (if l.all q = true then .inr () else .inl false) := by
  have := loop_all l q (β := Bool ⊕ Unit) (.inr ()) (.inl false) F (fun i h => by rw [hs i h]; cases q l[i] <;> rfl) he
  rw [this]
  cases l.all q <;> rfl
theorem growNode (n : Nat) (h : n ≤ 1099511627776) : ∃ b, slices_Grow_Node (n : Int) = some (b, []) := by
  have hlim := lim_eq
  have e : IntKind.i64.wrap ((n : Int) - IntKind.i64.wrap (0 - 0)) = (n : Int) := by
    rw [show IntKind.i64.wrap (0 - 0) = 0 from wr (by omega), wr (by omega)]
    omega
  rw [slices_Grow_Node_eq, e, gF (by omega)]
  by_cases h0 : n = 0
  · rw [gF (by omega)]
    exact ⟨_, rfl⟩
  · rw [gT (by omega), gT (by omega), gT (by omega), gT (by simp; omega), gT (by omega)]
    exact ⟨_, rfl⟩
theorem concatNode_L0 (s l : Bool × List (Bool × List DNode)) (d : Nat) : ∀ (i k : Nat), i + d = l.2.length → k + ((l.2.drop i).map fun x => x.2.length).sum ≤ 1099511627776 → l.2.length ≤ 1099511627776 →
    slices_Concat_Node_L0 s (k : Int) l (l.2.length : Int) (i : Int) = some ((k + ((l.2.drop i).map fun x => x.2.length).sum : Nat) : Int) := by
  induction d with
  | zero =>
    intro i k hi hk hl
    rw [slices_Concat_Node_L0_eq, gF (by omega), List.drop_of_length_le (by omega)]
    rfl
  | succ d ih =>
    intro i k hi hk hl
    have hlt : i < l.2.length := by omega
    rw [List.drop_eq_getElem_cons hlt] at hk ⊢
    simp only [List.map_cons, List.sum_cons] at hk ⊢
    rw [slices_Concat_Node_L0_eq, gT (by omega), gT (by omega), gT (by omega), getD_at l.2 _ i hlt, show (k : Int) + (l.2[i].2.length : Int) = ((k + l.2[i].2.length : Nat) : Int) by omega, wr (by omega), gF (by omega), up1 i (by omega), bind_id, ih (i + 1) _ (by omega) (by omega) hl]
    congr 2
    omega
theorem concatNode_L2 (l : Bool × List (Bool × List DNode)) (d : Nat) : ∀ (i : Nat) (b : Bool) (out : List DNode), i + d = l.2.length → out.length + ((l.2.drop i).map fun x => x.2.length).sum ≤ 1099511627776 → l.2.length ≤ 1099511627776 →
    ∃ b', slices_Concat_Node_L2 (b, out) l (l.2.length : Int) (i : Int) = some (b', out ++ ((l.2.drop i).map fun x => x.2).flatten) := by
  have hlim := lim_eq
  induction d with
  | zero =>
    intro i b out hi hk hl
    rw [slices_Concat_Node_L2_eq, gF (by omega), List.drop_of_length_le (by omega)]
    exact ⟨b, by simp⟩
  | succ d ih =>
    intro i b out hi hk hl
    have hlt : i < l.2.length := by omega
    rw [List.drop_eq_getElem_cons hlt] at hk ⊢
    simp only [List.map_cons, List.sum_cons, List.flatten_cons] at hk ⊢
    rw [slices_Concat_Node_L2_eq, gT (by omega), gT (by omega), gT (by omega), getD_at l.2 _ i hlt, gT (by simp only; omega), up1 i (by omega), bind_id]
    obtain ⟨b', g⟩ := ih (i + 1) (b && l.2[i].2.isEmpty) (out ++ l.2[i].2) (by omega) (by rw [List.length_append]; omega) hl
    exact ⟨b', by rw [g]; simp⟩
theorem concatNode (l : Bool × List (Bool × List DNode)) (h : (l.2.map fun x => x.2.length).sum ≤ 1099511627776) (hl : l.2.length ≤ 1099511627776) : ∃ b, slices_Concat_Node l = some (b, (l.2.map fun x => x.2).flatten) := by
  have h0 := concatNode_L0 l l l.2.length 0 0 (by omega) (by simpa using h) hl
  rw [List.drop_zero, Nat.zero_add] at h0
  have h0' : slices_Concat_Node_L0 l 0 l (l.2.length : Int) 0 = _ := h0
  obtain ⟨b1, h1⟩ := growNode _ h
  obtain ⟨b2, h2⟩ := concatNode_L2 l l.2.length 0 b1 [] (by omega) (by simpa using h) hl
  rw [List.drop_zero, List.nil_append] at h2
  have h2' : slices_Concat_Node_L2 (b1, []) l (l.2.length : Int) 0 = _ := h2
  exact ⟨b2, by rw [slices_Concat_Node_eq, h0', some_bind, h1, some_bind, h2', some_bind]⟩
theorem l1All (l : Bool × List Int) (lo hi : Int) (hl : l.2.length ≤ 1048576) : spec_l1All l lo hi = some (l.2.all fun x => decide (lo ≤ x ∧ x ≤ hi)) := by
  rw [spec_l1All_eq, all_loop l.2 (fun x => decide (lo ≤ x ∧ x ≤ hi)) (fun i => spec_l1All_L0 lo hi l (l.2.length : Int) i) (fun i h => by
    rw [spec_l1All_L0_eq, gT (by omega), gT (by omega), gT (by omega), getD_at l.2 _ i h, up1 i (by omega), bind_id, l1In_eq, some_bind]) (by rw [spec_l1All_L0_eq, gF (by omega)]), some_bind]
  cases (l.2.all fun x => decide (lo ≤ x ∧ x ≤ hi)) <;> rfl
/-- a term with its variables put by terms -/
def putL (t : List DNode) (rows : List (List DNode)) : List DNode := t.flatMap fun n => if n.1 = 2 then rows.getD n.2.toNat [] else [n]
/-- what PutAll gives: the term, and whether it is good -/
def putAllL (wide vars : Int) (t : List DNode) (rows : List (List DNode)) : List DNode × Bool :=
  if kindT wide vars t ≠ 0 ∧ (rows.length : Int) = vars ∧ (rows.all fun r => kindT wide vars r == 1) = true ∧ kindT wide vars (putL t rows) ≠ 0 then (putL t rows, true) else ([], false)
theorem putL_mem {t : List DNode} {rows : List (List DNode)} (ht : WfN t) (h : ∀ r ∈ rows, WfN r) : WfN (putL t rows) := by
  intro x hx
  obtain ⟨n, hn, hx⟩ := List.mem_flatMap.1 hx
  split at hx
  · rw [List.getD_eq_getElem?_getD] at hx
    by_cases hn : n.2.toNat < rows.length
    · rw [List.getElem?_eq_getElem hn] at hx
      exact h _ (List.getElem_mem hn) x hx
    · rw [List.getElem?_eq_none (by omega)] at hx
      simp at hx
  · rw [List.mem_singleton] at hx
    rw [hx]
    exact ht n hn
theorem getD_snd (a : List (Bool × List DNode)) (i : Nat) : (a.getD i (true, [])).2 = (a.map Prod.snd).getD i [] := by
  simp only [List.getD_eq_getElem?_getD, List.getElem?_map]
  cases a[i]? <;> rfl
theorem kfold_leaf {wide vars : Int} : ∀ (t : List DNode) (st r : List Int), kfold wide vars t st = some r → ∀ x ∈ t, leafOk wide vars x.1 x.2 = true := by
  intro t
  induction t with
  | nil => intro st r _ x hx; simp at hx
  | cons y t ih =>
    intro st r h x hx
    simp only [kfold, Option.bind_eq_some_iff] at h
    obtain ⟨s, h1, h2⟩ := h
    rcases List.mem_cons.1 hx with rfl | hx
    · exact (kstep_some h1).2.1
    · exact ih s r h2 x hx
/-- the variables of a good term are the program's -/
theorem kindT_vars {wide vars : Int} {t : List DNode} (h : kindT wide vars t ≠ 0) : ∀ x ∈ t, x.1 = 2 → x.2 < vars := by
  intro x hx h2
  obtain ⟨_, _, _, _, hl1, _⟩ := kindT_in h
  have hne : t ≠ [] := by intro h; rw [h] at hl1; simp at hl1
  have := kfold_leaf t [] _ (kindT_last h hne).1 x hx
  unfold leafOk at this
  rw [if_neg (by omega), if_pos h2, decide_eq_true_eq] at this
  exact this
theorem spec_put_L2 (wide vars : Int) (rows : Bool × List (Bool × List DNode)) (t : Bool × List DNode) (hl : t.2.length ≤ 48) (hr : ∀ r ∈ rows.2, r.2.length ≤ 48) (hx : ∀ x ∈ t.2, x.1 = 2 → 0 ≤ x.2 ∧ x.2 < (rows.2.length : Int)) (d : Nat) : ∀ (i : Nat) (b : Bool) (out : List DNode), i + d = t.2.length → out.length ≤ i * 48 →
    ∃ b', spec_PutAll_L2 wide vars rows (b, out) t (t.2.length : Int) (i : Int) = some (b', out ++ putL (t.2.drop i) (rows.2.map Prod.snd)) := by
  have hlim := lim_eq
  induction d with
  | zero =>
    intro i b out hi ho
    rw [spec_PutAll_L2_eq, gF (by omega), List.drop_of_length_le (by omega)]
    exact ⟨b, by simp [putL]⟩
  | succ d ih =>
    intro i b out hi ho
    have hlt : i < t.2.length := by omega
    have hx1 := hx _ (List.getElem_mem hlt)
    have e : putL (t.2[i] :: t.2.drop (i + 1)) (rows.2.map Prod.snd) = (if t.2[i].1 = 2 then (rows.2.map Prod.snd).getD t.2[i].2.toNat [] else [t.2[i]]) ++ putL (t.2.drop (i + 1)) (rows.2.map Prod.snd) := by simp only [putL, List.flatMap_cons]
    rw [spec_PutAll_L2_eq, gT (by omega), gT (by omega), gT (by omega), getD_at t.2 _ i hlt, List.drop_eq_getElem_cons hlt, e, up1 i (by omega)]
    by_cases c : t.2[i].1 = 2
    · obtain ⟨h0, h1⟩ := hx1 c
      have hlen : ((rows.2.map Prod.snd).getD t.2[i].2.toNat []).length ≤ 48 := by
        rw [← getD_snd, List.getD_eq_getElem?_getD, List.getElem?_eq_getElem (by omega)]
        exact hr _ (List.getElem_mem _)
      rw [bT (by simpa using c), gT h0, gT h1, getD_snd, gT (by simp only; omega), if_pos c, bind_id]
      obtain ⟨b', g⟩ := ih (i + 1) (b && ((rows.2.map Prod.snd).getD t.2[i].2.toNat []).isEmpty) (out ++ (rows.2.map Prod.snd).getD t.2[i].2.toNat []) (by omega) (by rw [List.length_append]; omega)
      exact ⟨b', by rw [g, List.append_assoc]⟩
    · rw [bF (beqF c), gT (by simp; omega), if_neg c, bind_id]
      obtain ⟨b', g⟩ := ih (i + 1) (b && false) (out ++ [t.2[i]]) (by omega) (by rw [List.length_append, List.length_singleton]; omega)
      exact ⟨b', by rw [g, List.append_assoc]⟩
theorem impl_put_L0 (wide vars : Int) (rows : Bool × List (Bool × List DNode)) (t : Bool × List DNode) (hl : t.2.length ≤ 48) (hr : ∀ r ∈ rows.2, r.2.length ≤ 48) (hx : ∀ x ∈ t.2, x.1 = 2 → 0 ≤ x.2 ∧ x.2 < (rows.2.length : Int)) (d : Nat) : ∀ (i : Nat) (b : Bool) (out : List DNode), i + d = t.2.length → out.length ≤ i * 48 →
    ∃ b', (b = false → b' = false) ∧ impl_PutAll_L0 rows wide vars (b, out) t (t.2.length : Int) (i : Int) = some (b', out ++ putL (t.2.drop i) (rows.2.map Prod.snd)) := by
  have hlim := lim_eq
  induction d with
  | zero =>
    intro i b out hi ho
    rw [impl_PutAll_L0_eq, gF (by omega), List.drop_of_length_le (by omega)]
    exact ⟨b, id, by simp [putL]⟩
  | succ d ih =>
    intro i b out hi ho
    have hlt : i < t.2.length := by omega
    have hx1 := hx _ (List.getElem_mem hlt)
    have e : putL (t.2[i] :: t.2.drop (i + 1)) (rows.2.map Prod.snd) = (if t.2[i].1 = 2 then (rows.2.map Prod.snd).getD t.2[i].2.toNat [] else [t.2[i]]) ++ putL (t.2.drop (i + 1)) (rows.2.map Prod.snd) := by simp only [putL, List.flatMap_cons]
    rw [impl_PutAll_L0_eq, gT (by omega), gT (by omega), gT (by omega), getD_at t.2 _ i hlt, List.drop_eq_getElem_cons hlt, e, up1 i (by omega)]
    by_cases c : t.2[i].1 = 2
    · obtain ⟨h0, h1⟩ := hx1 c
      have hlen : ((rows.2.map Prod.snd).getD t.2[i].2.toNat []).length ≤ 48 := by
        rw [← getD_snd, List.getD_eq_getElem?_getD, List.getElem?_eq_getElem (by omega)]
        exact hr _ (List.getElem_mem _)
      rw [bT (by simpa using c), gT h0, gT h1, getD_snd, gT (by simp only; omega), if_pos c, bind_id]
      obtain ⟨b', q, g⟩ := ih (i + 1) (b && ((rows.2.map Prod.snd).getD t.2[i].2.toNat []).isEmpty) (out ++ (rows.2.map Prod.snd).getD t.2[i].2.toNat []) (by omega) (by rw [List.length_append]; omega)
      exact ⟨b', fun h => q (by rw [h]; rfl), by rw [g, List.append_assoc]⟩
    · rw [bF (beqF c), gT (by simp; omega), if_neg c, bind_id]
      obtain ⟨b', q, g⟩ := ih (i + 1) (b && false) (out ++ [t.2[i]]) (by omega) (by rw [List.length_append, List.length_singleton]; omega)
      exact ⟨b', fun h => q (by rw [h]; rfl), by rw [g, List.append_assoc]⟩
theorem spec_goodTerm (wide vars : Int) (t : Bool × List DNode) (hx : WfN t.2) : spec_GoodTerm wide vars t = some (kindT wide vars t.2 != 0) := by
  rw [spec_GoodTerm_eq, l2Kind wide vars t hx, some_bind]
  congr 1
  by_cases h : kindT wide vars t.2 = 0
  · rw [h]; rfl
  · have := kindT_pos h
    rw [decide_eq_true (by omega)]
    symm
    simpa using h
theorem contains_put (wide vars : Int) (rows : Bool × List (Bool × List DNode)) (hl : rows.2.length ≤ 1048576) : slices_ContainsFunc_Node_by_PutAll_1 rows (wide, (vars, ())) = some (rows.2.any fun r => !(kindT wide vars r.2 == 1)) := by
  have h := loop_find rows.2 (fun r => !(kindT wide vars r.2 == 1)) (fun i => slices_IndexFunc_Node_by_PutAll_1_L0 rows (wide, (vars, ())) (rows.2.length : Int) i) (fun i h => by
    rw [slices_IndexFunc_Node_by_PutAll_1_L0_eq, gT (by omega), gT (by omega), gT (by omega), getD_at rows.2 _ i h, impl_PutAll_1_eq, isTermOf _ _ 1 _ (by decide), some_bind, some_bind, up1 i (by omega), bind_id]) (by rw [slices_IndexFunc_Node_by_PutAll_1_L0_eq, gF (by omega)])
  rw [slices_ContainsFunc_Node_by_PutAll_1_eq, slices_IndexFunc_Node_by_PutAll_1_eq]
  exact contains_of h
theorem putAll_both (wide vars : Int) (t : Bool × List DNode) (hx : WfN t.2) (rows rows2 : Bool × List (Bool × List DNode)) (hl : rows.2.length ≤ 1048576) (hr : ∀ r ∈ rows.2, WfN r.2) (he : rows.2.map Prod.snd = rows2.2.map Prod.snd) :
    ∃ f g, (g = true → (putAllL wide vars t.2 (rows.2.map Prod.snd)).1 = []) ∧ spec_PutAll wide vars t rows = some ((f, (putAllL wide vars t.2 (rows.2.map Prod.snd)).1), (putAllL wide vars t.2 (rows.2.map Prod.snd)).2) ∧ impl_PutAll wide vars t rows2 = some ((g, (putAllL wide vars t.2 (rows.2.map Prod.snd)).1), (putAllL wide vars t.2 (rows.2.map Prod.snd)).2) := by
  have hlen : rows.2.length = rows2.2.length := by have := congrArg List.length he; simpa using this
  have eall : (rows.2.all fun r => kindT wide vars r.2 == 1) = (rows.2.map Prod.snd).all fun r => kindT wide vars r == 1 := by rw [List.all_map]; rfl
  have eall2 : (rows2.2.any fun r => !(kindT wide vars r.2 == 1)) = !(rows.2.map Prod.snd).all fun r => kindT wide vars r == 1 := by
    rw [he, List.all_map, List.all_eq_not_any_not, Bool.not_not]; rfl
  have hloop := all_loop rows.2 (fun r => kindT wide vars r.2 == 1) (fun i => spec_PutAll_L0 wide vars t rows rows (rows.2.length : Int) i) (fun i h => by
    rw [spec_PutAll_L0_eq, gT (by omega), gT (by omega), gT (by omega), getD_at rows.2 _ i h, l2Kind wide vars _ (hr _ (List.getElem_mem h)), some_bind, up1 i (by omega), bind_id]
    rfl) (by rw [spec_PutAll_L0_eq, gF (by omega)])
  rw [spec_PutAll_eq, impl_PutAll_eq, spec_goodTerm wide vars t hx, goodTerm, some_bind, some_bind, contains_put wide vars rows2 (by omega), hloop, eall, eall2]
  have bad : ¬ (kindT wide vars t.2 ≠ 0 ∧ ((rows.2.map Prod.snd).length : Int) = vars ∧ ((rows.2.map Prod.snd).all fun r => kindT wide vars r == 1) = true ∧ kindT wide vars (putL t.2 (rows.2.map Prod.snd)) ≠ 0) → putAllL wide vars t.2 (rows.2.map Prod.snd) = ([], false) := fun h => by unfold putAllL; rw [if_neg h]
  by_cases c1 : kindT wide vars t.2 = 0
  · rw [bad (by rintro ⟨h, _⟩; exact h c1), c1]
    exact ⟨true, true, fun _ => rfl, rfl, rfl⟩
  have e1 : (kindT wide vars t.2 != 0) = true := by simpa using c1
  rw [e1, Bool.not_true, cond_false, cond_false]
  by_cases c2 : (rows.2.length : Int) = vars
  · have e2 : ((rows.2.length : Int) != vars) = false := by simpa using c2
    have e3 : ((rows2.2.length : Int) != vars) = false := by rw [← hlen]; exact e2
    rw [e2, e3, cond_false, cond_false, some_bind, some_bind]
    cases h3 : (rows.2.map Prod.snd).all fun r => kindT wide vars r == 1 with
    | false =>
      rw [bad (by rintro ⟨_, _, h, _⟩; rw [h3] at h; exact absurd h (by simp))]
      exact ⟨true, true, fun _ => rfl, rfl, rfl⟩
    | true =>
      have hr48 : ∀ r ∈ rows.2.map Prod.snd, r.length ≤ 48 := by
        intro r hm
        have := (List.all_eq_true.1 h3) r hm
        rw [beq_iff_eq] at this
        exact (kindT_in (by rw [this]; decide)).2.2.2.2.2
      have hv := kindT_vars c1
      obtain ⟨_, _, _, _, hl1, hl2⟩ := kindT_in c1
      have hx1 : ∀ x ∈ t.2, x.1 = 2 → 0 ≤ x.2 ∧ x.2 < (rows.2.length : Int) := fun x h1 h2 => ⟨(hx x h1).1, by rw [c2]; exact hv x h1 h2⟩
      obtain ⟨b1, g1⟩ := spec_put_L2 wide vars rows t hl2 (fun r hm => hr48 _ (List.mem_map_of_mem hm)) hx1 t.2.length 0 true [] (by omega) (by simp)
      obtain ⟨b2, q2, g2⟩ := impl_put_L0 wide vars rows2 t hl2 (fun r hm => hr48 _ (by rw [he]; exact List.mem_map_of_mem hm)) (by rw [← hlen]; exact hx1) t.2.length 0 false [] (by omega) (by simp)
      rw [List.drop_zero, List.nil_append] at g1 g2
      rw [← he] at g2
      have g1' : spec_PutAll_L2 wide vars rows (true, []) t (t.2.length : Int) 0 = _ := g1
      have g2' : impl_PutAll_L0 rows2 wide vars (false, []) t (t.2.length : Int) 0 = _ := g2
      have hwf : WfN (putL t.2 (rows.2.map Prod.snd)) := putL_mem hx fun r hm => by
        obtain ⟨q, hq, rfl⟩ := List.mem_map.1 hm
        exact hr q hq
      simp only [if_true, Bool.not_true, cond_false, g1', g2', some_bind]
      rw [spec_l2Made_eq, impl_checkedTerm_eq, spec_goodTerm wide vars _ hwf, goodTerm, some_bind, some_bind]
      by_cases c4 : kindT wide vars (putL t.2 (rows.2.map Prod.snd)) = 0
      · rw [bad (by rintro ⟨_, _, _, h⟩; exact h c4)]
        simp only [c4]
        exact ⟨true, true, by simp, rfl, rfl⟩
      · have e5 : (kindT wide vars (putL t.2 (rows.2.map Prod.snd)) != 0) = true := by simpa using c4
        have ep : putAllL wide vars t.2 (rows.2.map Prod.snd) = (putL t.2 (rows.2.map Prod.snd), true) := by unfold putAllL; rw [if_pos ⟨c1, by simpa using c2, h3, c4⟩]
        rw [ep]
        simp only [e5]
        exact ⟨b1, b2, fun h => by rw [q2 rfl] at h; exact absurd h (by simp), rfl, rfl⟩
  · have e2 : ((rows.2.length : Int) != vars) = true := by simpa using c2
    have e3 : ((rows2.2.length : Int) != vars) = true := by rw [← hlen]; exact e2
    rw [e2, e3, cond_true, cond_true, bad (by rintro ⟨_, h, _⟩; exact c2 (by simpa using h))]
    exact ⟨true, true, fun _ => rfl, rfl, rfl⟩
/-- the program's variables, each as a term -/
def baseR (i d : Nat) : List (Bool × List DNode) := (List.range' i d).map fun v : Nat => (false, [(2, (v : Int))])
/-- what stands for each variable after a command's changes -/
def byR (base : List (Bool × List DNode)) (cs : List DChange) : List (Bool × List DNode) := cs.foldl (fun r c => r.set c.1.toNat c.2) base
theorem byR_length (cs : List DChange) : ∀ base, (byR base cs).length = base.length := by
  induction cs with
  | nil => intro base; rfl
  | cons c cs ih => intro base; show (byR (base.set c.1.toNat c.2) cs).length = _; rw [ih, List.length_set]
theorem byR_mem (cs : List DChange) : ∀ base r, r ∈ byR base cs → r ∈ base ∨ ∃ c ∈ cs, r = c.2 := by
  induction cs with
  | nil => intro base r h; exact .inl h
  | cons c cs ih =>
    intro base r h
    rcases ih (base.set c.1.toNat c.2) r h with h | ⟨d, hd, e⟩
    · rcases List.mem_or_eq_of_mem_set h with h | h
      · exact .inl h
      · exact .inr ⟨c, List.mem_cons_self, h⟩
    · exact .inr ⟨d, List.mem_cons_of_mem _ hd, e⟩
def rowsOf (p : DProgram) (c : DCommand) : List (Bool × List DNode) := byR (baseR 0 p.2.1.toNat) c.2.2
/-- what must hold ahead of a command for a condition to hold behind it -/
def beforeT (p : DProgram) (c : DCommand) (t : List DNode) : List DNode × Bool := putAllL p.1 p.2.1 t ((rowsOf p c).map Prod.snd)
theorem spec_base_L0 (p : DProgram) (k : Int) (t : Bool × List DNode) (n : Nat) (hn : p.2.1 = (n : Int)) (h4 : n ≤ 4) (d : Nat) : ∀ (i : Nat) (b : Bool) (out : List (Bool × List DNode)), i + d = n → out.length ≤ i →
    ∃ b', spec_l16One_L0 k t p (b, out) (i : Int) = some (b', out ++ baseR i d) := by
  have hlim := lim_eq
  induction d with
  | zero =>
    intro i b out hi ho
    rw [spec_l16One_L0_eq, gF (by omega)]
    exact ⟨b, by simp [baseR]⟩
  | succ d ih =>
    intro i b out hi ho
    rw [spec_l16One_L0_eq, gT (by omega), wru (by omega), gT (by simp; omega), up1 i (by omega), bind_id]
    obtain ⟨b', g⟩ := ih (i + 1) (b && false) (out ++ [(false, [(2, (i : Int))])]) (by omega) (by simp; omega)
    exact ⟨b', by rw [g]; simp [baseR, List.range'_succ]⟩
theorem impl_base_L0 (p : DProgram) (k : Int) (t : Bool × List DNode) (n : Nat) (h4 : n ≤ 4) (d : Nat) : ∀ (i : Nat) (b : Bool) (out : List (Bool × List DNode)), i + d = n → out.length ≤ i →
    ∃ b', impl_Program_beforeOne_L0 k t p (b, out) (n : Int) (i : Int) = some (b', out ++ baseR i d) := by
  have hlim := lim_eq
  induction d with
  | zero =>
    intro i b out hi ho
    rw [impl_Program_beforeOne_L0_eq, gF (by omega)]
    exact ⟨b, by simp [baseR]⟩
  | succ d ih =>
    intro i b out hi ho
    rw [impl_Program_beforeOne_L0_eq, gT (by omega), wru (by omega), gT (by simp; omega), up1 i (by omega), bind_id]
    obtain ⟨b', g⟩ := ih (i + 1) (b && false) (out ++ [(false, [(2, (i : Int))])]) (by omega) (by simp; omega)
    exact ⟨b', by rw [g]; simp [baseR, List.range'_succ]⟩
theorem spec_by_L2 (p : DProgram) (t : Bool × List DNode) (b : Bool) (cs : Bool × List DChange) (hl : cs.2.length ≤ 1048576) (d : Nat) : ∀ (i : Nat) (out : List (Bool × List DNode)), i + d = cs.2.length → (∀ c ∈ cs.2, 0 ≤ c.1 ∧ c.1 < (out.length : Int)) →
    spec_l16One_L2 t p (b, out) cs (cs.2.length : Int) (i : Int) = some (b, byR out (cs.2.drop i)) := by
  induction d with
  | zero =>
    intro i out hi ho
    rw [spec_l16One_L2_eq, gF (by omega), List.drop_of_length_le (by omega)]
    rfl
  | succ d ih =>
    intro i out hi ho
    have hlt : i < cs.2.length := by omega
    have hx := ho _ (List.getElem_mem hlt)
    rw [spec_l16One_L2_eq, gT (by omega), gT (by omega), gT (by omega), getD_at cs.2 _ i hlt, gT hx.1, gT hx.2, up1 i (by omega), bind_id, ih (i + 1) _ (by omega) (by rw [List.length_set]; exact ho), List.drop_eq_getElem_cons hlt]
    rfl
theorem impl_by_L2 (p : DProgram) (t : Bool × List DNode) (b : Bool) (cs : Bool × List DChange) (hl : cs.2.length ≤ 1048576) (d : Nat) : ∀ (i : Nat) (out : List (Bool × List DNode)), i + d = cs.2.length → (∀ c ∈ cs.2, 0 ≤ c.1 ∧ c.1 < (out.length : Int)) →
    impl_Program_beforeOne_L2 t p (b, out) cs (cs.2.length : Int) (i : Int) = some (b, byR out (cs.2.drop i)) := by
  induction d with
  | zero =>
    intro i out hi ho
    rw [impl_Program_beforeOne_L2_eq, gF (by omega), List.drop_of_length_le (by omega)]
    rfl
  | succ d ih =>
    intro i out hi ho
    have hlt : i < cs.2.length := by omega
    have hx := ho _ (List.getElem_mem hlt)
    rw [impl_Program_beforeOne_L2_eq, gT (by omega), gT (by omega), gT (by omega), getD_at cs.2 _ i hlt, gT hx.1, gT hx.2, up1 i (by omega), bind_id, ih (i + 1) _ (by omega) (by rw [List.length_set]; exact ho), List.drop_eq_getElem_cons hlt]
    rfl
theorem rowsOf_wf {p : DProgram} {c : DCommand} (h4 : p.2.1 ≤ 4) (hc : WfCm c) : ∀ r ∈ rowsOf p c, WfN r.2 := by
  intro r hr
  rcases byR_mem _ _ r hr with h | ⟨d, hd, e⟩
  · obtain ⟨v, hv, rfl⟩ := List.mem_map.1 h
    have := (List.mem_range'_1.1 hv).2
    intro x hx
    rw [List.mem_singleton] at hx
    rw [hx]
    exact ⟨by simp only; omega, by simp only; omega⟩
  · rw [e]
    exact hc.2 d hd
theorem before_both {p : DProgram} (hg : goodProgram p = true) (hs : SmProgram p) (hw : WfP p) (t : Bool × List DNode) (hx : WfN t.2) (k : Nat) (hk : k < p.2.2.2.2.length) :
    ∃ f g, (g = true → (beforeT p p.2.2.2.2[k] t.2).1 = []) ∧ spec_l16One p (k : Int) t = some ((f, (beforeT p p.2.2.2.2[k] t.2).1), (beforeT p p.2.2.2.2[k] t.2).2) ∧ impl_Program_beforeOne p (k : Int) t = some ((g, (beforeT p p.2.2.2.2[k] t.2).1), (beforeT p p.2.2.2.2[k] t.2).2) := by
  obtain ⟨h1, h2, h3, h4⟩ := goodProgram_in hg
  obtain ⟨n, hn⟩ := Int.eq_ofNat_of_zero_le (show 0 ≤ p.2.1 by omega)
  have hmem := List.getElem_mem hk
  have hc := cmd_in hg _ hmem
  have hsm := hs.2.2 _ hmem
  have hwc := hw.2 _ hmem
  have hblen : (baseR 0 n).length = n := by simp [baseR]
  obtain ⟨b1, e1⟩ := spec_base_L0 p (k : Int) t n hn (by omega) n 0 true [] (by omega) (by simp)
  obtain ⟨b2, e2⟩ := impl_base_L0 p (k : Int) t n (by omega) n 0 false [] (by omega) (by simp)
  rw [List.nil_append] at e1 e2
  have e1' : spec_l16One_L0 (k : Int) t p (true, []) 0 = _ := e1
  have e2' : impl_Program_beforeOne_L0 (k : Int) t p (false, []) (n : Int) 0 = _ := e2
  have e3 := spec_by_L2 p t b1 p.2.2.2.2[k].2 hsm.2.1 _ 0 (baseR 0 n) (Nat.zero_add _) (fun c h => by rw [hblen, ← hn]; have := hc.2 c h; omega)
  have e4 := impl_by_L2 p t b2 p.2.2.2.2[k].2 hsm.2.1 _ 0 (baseR 0 n) (Nat.zero_add _) (fun c h => by rw [hblen, ← hn]; have := hc.2 c h; omega)
  rw [List.drop_zero] at e3 e4
  have e3' : spec_l16One_L2 t p (b1, baseR 0 n) p.2.2.2.2[k].2 (p.2.2.2.2[k].2.2.length : Int) 0 = _ := e3
  have e4' : impl_Program_beforeOne_L2 t p (b2, baseR 0 n) p.2.2.2.2[k].2 (p.2.2.2.2[k].2.2.length : Int) 0 = _ := e4
  have er : byR (baseR 0 n) p.2.2.2.2[k].2.2 = rowsOf p p.2.2.2.2[k] := by rw [rowsOf, hn, Int.toNat_natCast]
  rw [er] at e3' e4'
  obtain ⟨f, g, q0, q1, q2⟩ := putAll_both p.1 p.2.1 t hx (b1, rowsOf p p.2.2.2.2[k]) (b2, rowsOf p p.2.2.2.2[k]) (by rw [← er, byR_length, hblen]; omega) (rowsOf_wf h4 hwc) rfl
  refine ⟨f, g, q0, ?_, ?_⟩
  · rw [spec_l16One_eq, e1', some_bind, gT (by omega), gT (by omega), getD_at _ _ k hk]
    simp only [e3', some_bind, q1]
    rfl
  · rw [impl_Program_beforeOne_eq, hn, e2', some_bind, gT (by omega), gT (by omega), getD_at _ _ k hk]
    simp only [e4', some_bind, ← hn, q2]
    rfl
/-- what must hold ahead of a command, if it is enabled -/
def ifL (p : DProgram) (c : DCommand) (t : List DNode) : Option (List DNode) :=
  if (beforeT p c t).2 = true ∧ kindT p.1 p.2.1 (c.1.2 ++ [(19, 0)] ++ (beforeT p c t).1 ++ [(18, 0)]) ≠ 0 then some (c.1.2 ++ [(19, 0)] ++ (beforeT p c t).1 ++ [(18, 0)]) else none
theorem ifL_in {p : DProgram} {c : DCommand} {t s : List DNode} (h : ifL p c t = some s) : s.length ≤ 48 := by
  unfold ifL at h
  split at h
  · rename_i h1
    simp only [Option.some.injEq] at h
    rw [← h]
    exact (kindT_in h1.2).2.2.2.2.2
  · cases h
theorem putAllL_wf {wide vars : Int} {t : List DNode} {rows : List (List DNode)} (ht : WfN t) (h : ∀ r ∈ rows, WfN r) : WfN (putAllL wide vars t rows).1 := by
  unfold putAllL
  split
  · exact putL_mem ht h
  · intro x hx; cases hx
theorem putAllL_length (wide vars : Int) (t : List DNode) (rows : List (List DNode)) : (putAllL wide vars t rows).1.length ≤ 48 := by
  unfold putAllL
  split
  · rename_i h
    exact (kindT_in h.2.2.2).2.2.2.2.2
  · simp
theorem WfN_app {a b : List DNode} (ha : WfN a) (hb : WfN b) : WfN (a ++ b) := fun x hx => (List.mem_append.1 hx).elim (ha x) (hb x)
theorem WfN_op (k : Int) (h : 0 ≤ k ∧ k ≤ 30) : WfN [(k, 0)] := fun x hx => by
  rw [List.mem_singleton] at hx
  rw [hx]
  exact ⟨by simp only; omega, by simp only; omega⟩
theorem if_wf {p : DProgram} (hg : goodProgram p = true) (hw : WfP p) {c : DCommand} (hc : c ∈ p.2.2.2.2) {t : List DNode} (ht : WfN t) : WfN (c.1.2 ++ [(19, 0)] ++ (beforeT p c t).1 ++ [(18, 0)]) := by
  obtain ⟨h1, h2, h3, h4⟩ := goodProgram_in hg
  have hwc := hw.2 _ hc
  refine WfN_app (WfN_app (WfN_app hwc.1 (WfN_op 19 (by omega))) ?_) (WfN_op 18 (by omega))
  refine putAllL_wf ht fun r hr => ?_
  obtain ⟨x, hx, rfl⟩ := List.mem_map.1 hr
  exact rowsOf_wf h4 hwc x hx
theorem if_both {p : DProgram} (hg : goodProgram p = true) (hs : SmProgram p) (hw : WfP p) (t : Bool × List DNode) (hx : WfN t.2) (k : Nat) (hk : k < p.2.2.2.2.length) :
    ∃ f g, spec_l16If p (k : Int) t = some (match ifL p p.2.2.2.2[k] t.2 with | some s => ((f, s), true) | none => ((true, []), false)) ∧ impl_Program_beforeIf p (k : Int) t = some (match ifL p p.2.2.2.2[k] t.2 with | some s => ((g, s), true) | none => ((true, []), false)) := by
  have hlim := lim_eq
  have hmem := List.getElem_mem hk
  have hsm := hs.2.2 _ hmem
  have hw1 : p.2.2.2.2[k].1.2.length ≤ 1048576 := hsm.1
  obtain ⟨f, g, _, e1, e2⟩ := before_both hg hs hw t hx k hk
  have hbl : (beforeT p p.2.2.2.2[k] t.2).1.length ≤ 48 := putAllL_length _ _ _ _
  have hwf := if_wf hg hw hmem hx
  have hc := concatNode (false, [p.2.2.2.2[k].1, (false, [(19, 0)]), (g, (beforeT p p.2.2.2.2[k] t.2).1), (false, [(18, 0)])]) (by simp only [List.map_cons, List.map_nil, List.sum_cons, List.sum_nil, List.length_cons, List.length_nil]; omega) (by simp)
  obtain ⟨b, hc⟩ := hc
  have hfl : ([p.2.2.2.2[k].1, ((false, [(19, 0)]) : Bool × List DNode), (g, (beforeT p p.2.2.2.2[k] t.2).1), (false, [(18, 0)])].map fun x => x.2).flatten = p.2.2.2.2[k].1.2 ++ [(19, 0)] ++ (beforeT p p.2.2.2.2[k] t.2).1 ++ [(18, 0)] := by simp
  rw [hfl] at hc
  refine ⟨false, b, ?_, ?_⟩
  · rw [spec_l16If_eq, e1, some_bind]
    by_cases hB : (beforeT p p.2.2.2.2[k] t.2).2 = true
    · simp only [hB, Bool.not_true, cond_false]
      rw [gT (by omega), gT (by omega)]
      simp only [getD_at p.2.2.2.2 _ k hk, List.nil_append]
      rw [gT (by simp only [List.length_nil]; omega), gT (by simp only [List.length_cons, List.length_nil]; omega), gT (by simp only [List.length_append, List.length_cons, List.length_nil]; omega), gT (by simp only [List.length_append, List.length_cons, List.length_nil]; omega), spec_l2Made_eq, spec_goodTerm p.1 p.2.1 _ hwf, some_bind]
      by_cases hk2 : kindT p.1 p.2.1 (p.2.2.2.2[k].1.2 ++ [(19, 0)] ++ (beforeT p p.2.2.2.2[k] t.2).1 ++ [(18, 0)]) = 0
      · have eI : ifL p p.2.2.2.2[k] t.2 = none := if_neg fun hh => hh.2 hk2
        rw [eI]
        simp only [hk2]
        rfl
      · have eI : ifL p p.2.2.2.2[k] t.2 = some _ := if_pos ⟨hB, hk2⟩
        rw [eI]
        have : (kindT p.1 p.2.1 (p.2.2.2.2[k].1.2 ++ [(19, 0)] ++ (beforeT p p.2.2.2.2[k] t.2).1 ++ [(18, 0)]) != 0) = true := bne_iff_ne.2 hk2
        simp only [this]
        rfl
    · have hB' : (beforeT p p.2.2.2.2[k] t.2).2 = false := by simpa using hB
      have eI : ifL p p.2.2.2.2[k] t.2 = none := if_neg fun hh => hB hh.1
      rw [eI, hB']
      rfl
  · rw [impl_Program_beforeIf_eq, e2, some_bind]
    by_cases hB : (beforeT p p.2.2.2.2[k] t.2).2 = true
    · simp only [hB, Bool.not_true, cond_false]
      rw [gT (by omega), gT (by omega), getD_at p.2.2.2.2 _ k hk, hc, some_bind, impl_checkedTerm_2_eq, goodTerm, some_bind]
      by_cases hk2 : kindT p.1 p.2.1 (p.2.2.2.2[k].1.2 ++ [(19, 0)] ++ (beforeT p p.2.2.2.2[k] t.2).1 ++ [(18, 0)]) = 0
      · have eI : ifL p p.2.2.2.2[k] t.2 = none := if_neg fun hh => hh.2 hk2
        rw [eI]
        simp only [hk2]
        rfl
      · have eI : ifL p p.2.2.2.2[k] t.2 = some _ := if_pos ⟨hB, hk2⟩
        rw [eI]
        have : (kindT p.1 p.2.1 (p.2.2.2.2[k].1.2 ++ [(19, 0)] ++ (beforeT p p.2.2.2.2[k] t.2).1 ++ [(18, 0)]) != 0) = true := bne_iff_ne.2 hk2
        simp only [this]
        rfl
    · have hB' : (beforeT p p.2.2.2.2[k] t.2).2 = false := by simpa using hB
      have eI : ifL p p.2.2.2.2[k] t.2 = none := if_neg fun hh => hB hh.1
      rw [eI, hB']
      rfl
theorem isCommandNo (p : DProgram) (k : Int) : impl_Program_isCommandNo p k = some (decide (0 ≤ k ∧ k < (p.2.2.2.2.length : Int))) := by
  rw [impl_Program_isCommandNo_eq]
  by_cases c : k ≥ 0
  · rw [gT c]
    congr 1
    exact decide_eq_decide.mpr ⟨fun h => ⟨c, h⟩, fun h => h.2⟩
  · rw [gF c, decide_eq_false (by omega)]
theorem commandIn (p : DProgram) (hs : SmProgram p) (k : Int) : spec_l1In k 0 (IntKind.i64.wrap ((p.2.2.2.2.length : Int) - 1)) = some (decide (0 ≤ k ∧ k < (p.2.2.2.2.length : Int))) := by
  have := hs.2.1
  rw [wr (by omega), l1In_eq]
  congr 1
  exact decide_eq_decide.mpr ⟨fun h => ⟨h.1, by omega⟩, fun h => ⟨h.1, by omega⟩⟩
/-- numbers of states, few enough -/
def InS (p : DProgram) (l : List Int) : Prop := l.length ≤ manyS p ∧ ∀ x ∈ l, 0 ≤ x ∧ x < (manyS p : Int)
theorem InS.filter {p : DProgram} {l : List Int} (h : InS p l) (q : Int → Bool) : InS p (l.filter q) := ⟨Nat.le_trans (List.length_filter_le _ _) h.1, fun x hx => h.2 x (List.mem_filter.1 hx).1⟩
/-- a graph's rows, whatever their marks of nil -/
structure Gr (m : Nat) (G : List (List Int)) : Prop where
  len : G.length = m
  inn : ∀ l ∈ G, ∀ w ∈ l, 0 ≤ w ∧ w < (m : Int)
  short : ∀ l ∈ G, l.length ≤ 20000000
  small : m ≤ 10000
def rowAt (X : List (Bool × List Int)) (k : Nat) : List Int := (X.getD k (true, [])).2
/-- what some puts hand to a row -/
def pick (S : List (Nat × Int)) (k : Nat) : List Int := (S.filter fun e => e.1 == k).map Prod.snd
theorem pick_append (S S' : List (Nat × Int)) (k : Nat) : pick (S ++ S') k = pick S k ++ pick S' k := by
  simp [pick]
theorem pick_length (S : List (Nat × Int)) (k : Nat) : (pick S k).length ≤ S.length := by
  rw [pick, List.length_map]
  exact List.length_filter_le _ _
/-- rows, with some puts done -/
structure Did (X X' : List (Bool × List Int)) (S : List (Nat × Int)) : Prop where
  len : X'.length = X.length
  row : ∀ k : Nat, k < X.length → rowAt X' k = rowAt X k ++ pick S k
def Bnd (X : List (Bool × List Int)) (n : Nat) : Prop := ∀ k : Nat, k < X.length → (rowAt X k).length ≤ n
theorem Did.refl (X : List (Bool × List Int)) : Did X X [] := ⟨rfl, fun k _ => by simp [pick]⟩
theorem Did.trans {X X' X'' : List (Bool × List Int)} {S S' : List (Nat × Int)} (h : Did X X' S) (h' : Did X' X'' S') : Did X X'' (S ++ S') := by
  refine ⟨by rw [h'.len, h.len], fun k hk => ?_⟩
  rw [h'.row k (by rw [h.len]; exact hk), h.row k hk, pick_append, List.append_assoc]
theorem Did.bnd {X X' : List (Bool × List Int)} {S : List (Nat × Int)} (h : Did X X' S) {n : Nat} (hb : Bnd X n) : Bnd X' (n + S.length) := by
  intro k hk
  rw [h.len] at hk
  rw [h.row k hk, List.length_append]
  have := hb k hk
  have := pick_length S k
  omega
theorem Did.put {X : List (Bool × List Int)} {k : Nat} (hk : k < X.length) (b : Bool) (z : Int) : Did X (X.set k (b, rowAt X k ++ [z])) [(k, z)] := by
  refine ⟨List.length_set, fun j hj => ?_⟩
  by_cases e : k = j
  · subst e
    simp [rowAt, List.getD_eq_getElem?_getD, hk, pick]
  · have e' : (k == j) = false := by rw [beq_eq_false_iff_ne]; exact e
    simp [rowAt, List.getD_eq_getElem?_getD, List.getElem?_set_ne e, pick, e']
/-- what can be reached along arrows -/
inductive Way (g : Int → List Int) : Int → Int → Prop
  | here (a : Int) : Way g a a
  | step {a b c : Int} : b ∈ g a → Way g b c → Way g a c
theorem Way.trans {g : Int → List Int} {a b c : Int} (h : Way g a b) (h2 : Way g b c) : Way g a c := by
  induction h with
  | here a => exact h2
  | step e _ ih => exact Way.step e (ih h2)
theorem Way.arc {g : Int → List Int} {a b : Int} (h : b ∈ g a) : Way g a b := Way.step h (Way.here b)
theorem Way.snoc {g : Int → List Int} {a b c : Int} (h : Way g a b) (h2 : c ∈ g b) : Way g a c := h.trans (Way.arc h2)
/-- what is closed along arrows keeps its ways in -/
theorem Way.closed {g : Int → List Int} {P : Int → Prop} (hc : ∀ x, P x → ∀ y ∈ g x, P y) {a b : Int} (h : Way g a b) : P a → P b := by
  induction h with
  | here a => exact id
  | step e _ ih => exact fun h => ih (hc _ h _ e)
theorem Way.turn {g r : Int → List Int} (hr : ∀ x y, y ∈ r x → x ∈ g y) {a b : Int} (h : Way r a b) : Way g b a := by
  induction h with
  | here a => exact Way.here a
  | step e _ ih => exact ih.trans (Way.arc (hr _ _ e))
/-- each leads to the other -/
def Scc (g : Int → List Int) (a b : Int) : Prop := Way g a b ∧ Way g b a
theorem Scc.refl (g : Int → List Int) (a : Int) : Scc g a a := ⟨Way.here a, Way.here a⟩
theorem Scc.symm {g : Int → List Int} {a b : Int} (h : Scc g a b) : Scc g b a := ⟨h.2, h.1⟩
theorem Scc.trans {g : Int → List Int} {a b c : Int} (h : Scc g a b) (h2 : Scc g b c) : Scc g a c := ⟨h.1.trans h2.1, h2.2.trans h.2⟩
/-- the least of a part -/
def IsL (g : Int → List Int) (x m : Int) : Prop := Scc g x m ∧ ∀ y, Scc g x y → m ≤ y
theorem IsL.one {g : Int → List Int} {x m k : Int} (h : IsL g x m) (h2 : IsL g x k) : m = k := Int.le_antisymm (h.2 k h2.1) (h2.2 m h.1)
theorem IsL.of {g : Int → List Int} {x y m : Int} (h : IsL g x m) (e : Scc g x y) : IsL g y m := ⟨e.symm.trans h.1, fun z hz => h.2 z (e.trans hz)⟩
/-- the arrows of a graph given by its rows -/
def gG (G : List (List Int)) : Int → List Int := fun x => if 0 ≤ x then G.getD x.toNat [] else []
/-- one arrow: what is known stays, what is new waits -/
structure Step1 (k : Nat) (s q : List Int) (s2 q2 : List Int) : Prop where
  len : s2.length = s.length
  same : ∀ v, v < s.length → 0 ≤ s.getD v 0 → s2.getD v 0 = s.getD v 0
  new : ∀ v, v < s.length → 0 ≤ s2.getD v 0 → 0 ≤ s.getD v 0 ∨ ((v : Int) ∈ q2 ∧ 1 ≤ s2.getD v 0)
  que : ∀ w ∈ q, w ∈ q2
theorem Step1.refl (k : Nat) (s q : List Int) : Step1 k s q s q := ⟨rfl, fun _ _ _ => rfl, fun _ _ h => Or.inl h, fun _ h => h⟩
theorem Step1.trans {k : Nat} {s q s2 q2 s3 q3 : List Int} (h : Step1 k s q s2 q2) (h2 : Step1 k s2 q2 s3 q3) : Step1 k s q s3 q3 := by
  refine ⟨by rw [h2.len, h.len], fun v hv h0 => ?_, fun v hv h0 => ?_, fun w hw => h2.que w (h.que w hw)⟩
  · rw [h2.same v (by rw [h.len]; exact hv) (by rw [h.same v hv h0]; exact h0), h.same v hv h0]
  · rcases h2.new v (by rw [h.len]; exact hv) h0 with a | ⟨a, b⟩
    · rcases h.new v hv a with c | ⟨c, d⟩
      · exact Or.inl c
      · refine Or.inr ⟨h2.que _ c, ?_⟩
        rw [h2.same v (by rw [h.len]; exact hv) a]
        exact d
    · exact Or.inr ⟨a, b⟩
theorem gG_in {m : Nat} {G : List (List Int)} (hG : Gr m G) : ∀ x, ∀ y ∈ gG G x, 0 ≤ y ∧ y < (m : Int) := by
  intro x y hy
  unfold gG at hy
  split at hy
  · by_cases q : x.toNat < G.length
    · have e : G.getD x.toNat [] = G[x.toNat] := by simp [List.getD_eq_getElem?_getD, q]
      rw [e] at hy
      exact hG.inn _ (List.getElem_mem q) y hy
    · rw [List.getD_eq_getElem?_getD, List.getElem?_eq_none (Nat.le_of_not_lt q)] at hy
      cases hy
  · cases hy
/-- what is known of the parts of a graph, of a list of points -/
def PartOk (m : Nat) (P : List Int) : Prop := P.length = m ∧ ∀ v : Nat, v < m → 0 ≤ P.getD v 0 ∧ P.getD v 0 < (m : Int)
theorem isl_both {g : Int → List Int} {x y m k : Int} (h : IsL g x m) (h2 : IsL g y k) : m = k ↔ Scc g x y := by
  constructor
  · rintro rfl
    exact h.1.trans h2.1.symm
  · intro e
    exact (h.of e).one h2
/-- the numbers of the parts -/
def PartsOf (m : Nat) (G : List (List Int)) (P : List Int) : Prop := P.length = m ∧ ∀ x, 0 ≤ x ∧ x < (m : Int) → IsL (gG G) x (P.getD x.toNat 0)
theorem way_in {m : Nat} {G : List (List Int)} (hG : Gr m G) {a b : Int} (h : Way (gG G) a b) (ha : 0 ≤ a ∧ a < (m : Int)) : 0 ≤ b ∧ b < (m : Int) := Way.closed (P := fun y => 0 ≤ y ∧ y < (m : Int)) (fun x _ y hy => gG_in hG x y hy) h ha
theorem PartsOf.ok {m : Nat} {G : List (List Int)} {P : List Int} (hG : Gr m G) (h : PartsOf m G P) : PartOk m P := ⟨h.1, fun v hv => by
  have := h.2 (v : Int) (by omega)
  rw [Int.toNat_natCast] at this
  exact way_in hG this.1.1 (by omega)⟩
theorem PartsOf.same {m : Nat} {G : List (List Int)} {P : List Int} (h : PartsOf m G P) {x y : Int} (hx : 0 ≤ x ∧ x < (m : Int)) (hy : 0 ≤ y ∧ y < (m : Int)) : P.getD x.toNat 0 = P.getD y.toNat 0 ↔ Scc (gG G) x y := isl_both (h.2 x hx) (h.2 y hy)
/-- what must hold ahead of a run of commands -/
def alongT (p : DProgram) (ks : List Int) (t : List DNode) : Option (List DNode) := ks.foldr (fun k o => o.bind fun t => ifL p (p.2.2.2.2.getD k.toNat ((true, []), (true, []))) t) (some t)
theorem foldr_none (p : DProgram) (ks : List Int) : ks.foldr (fun k o => o.bind fun t => ifL p (p.2.2.2.2.getD k.toNat ((true, []), (true, []))) t) none = none := by
  induction ks with
  | nil => rfl
  | cons k ks ih => rw [List.foldr_cons, ih]; rfl
theorem alongT_take (p : DProgram) (ks : List Int) (t : List DNode) (d : Nat) (hd : d < ks.length) : alongT p (ks.take (d + 1)) t = (ifL p (p.2.2.2.2.getD (ks[d]).toNat ((true, []), (true, []))) t).bind fun s => alongT p (ks.take d) s := by
  rw [alongT, List.take_succ_eq_append_getElem hd, List.foldr_append, List.foldr_cons, List.foldr_nil, Option.bind_some]
  cases h : ifL p (p.2.2.2.2.getD (ks[d]).toNat ((true, []), (true, []))) t with
  | none => rw [foldr_none]; rfl
  | some s => rfl
theorem along_both {p : DProgram} (hg : goodProgram p = true) (hs : SmProgram p) (hw : WfP p) (ks : Bool × List Int) (hl : ks.2.length ≤ 10) (hk : ∀ x ∈ ks.2, 0 ≤ x ∧ x < (p.2.2.2.2.length : Int)) (t6 : Bool × List DNode) (t7 : Bool) (d : Nat) : ∀ (t t' : Bool × List DNode), t'.2 = t.2 → d ≤ ks.2.length → WfN t.2 → t.2.length ≤ 1048576 →
    ∃ f g o, spec_AlongBefore_L0 ks p t ((d : Int) - 1) = some (match alongT p (ks.2.take d) t.2 with | some s => .inr (f, s) | none => .inl false) ∧ impl_AlongBefore_L0 p t6 t7 t' ks ((d : Int) - 1) = some (match alongT p (ks.2.take d) t.2 with | some s => .inl (t6, (t7, (g, s))) | none => .inr (false, o)) ∧ ∀ s, alongT p (ks.2.take d) t.2 = some s → s.length ≤ 1048576 := by
  induction d with
  | zero =>
    intro t t' e hd ht htl
    refine ⟨t.1, t'.1, (true, []), ?_, ?_, fun s hs => ?_⟩
    · rw [spec_AlongBefore_L0_eq, gF (by omega)]; rfl
    · rw [impl_AlongBefore_L0_eq, gT (by omega), ← e]; rfl
    · have : t.2 = s := Option.some.inj hs
      rw [← this]; exact htl
  | succ d ih =>
    intro t t' e hd ht htl
    have hlt : d < ks.2.length := by omega
    have hx := hk _ (List.getElem_mem hlt)
    obtain ⟨n, hn⟩ := Int.eq_ofNat_of_zero_le hx.1
    have hn2 : n < p.2.2.2.2.length := by omega
    obtain ⟨f, g, e1, _⟩ := if_both hg hs hw t ht n hn2
    obtain ⟨f', g', _, e2⟩ := if_both hg hs hw t' (by rw [e]; exact ht) n hn2
    rw [e] at e2
    have ei : ((d + 1 : Nat) : Int) - 1 = (d : Int) := by omega
    have ew : IntKind.i64.wrap ((d : Int) - 1) = (d : Int) - 1 := wr (by omega)
    have ec : p.2.2.2.2.getD (ks.2[d]).toNat ((true, []), (true, [])) = p.2.2.2.2[n] := by rw [hn, Int.toNat_natCast]; simp [List.getD_eq_getElem?_getD, hn2]
    rw [alongT_take p ks.2 t.2 d hlt, ec, ei, spec_AlongBefore_L0_eq, impl_AlongBefore_L0_eq, gT (by omega), gT (by omega), gT (by omega), getD_at ks.2 _ d hlt, gF (by omega), gT (by omega), hn, e1, some_bind]
    have e2' : impl_Program_beforeIf p (n : Int) (t'.1, t'.2) = _ := e2
    rw [e2', some_bind]
    cases h : ifL p p.2.2.2.2[n] t.2 with
    | none =>
      refine ⟨true, true, (t'.1, t'.2), rfl, rfl, fun s hs => by cases hs⟩
    | some s =>
      have hwf : WfN s := by
        unfold ifL at h
        split at h
        · simp only [Option.some.injEq] at h
          rw [← h]
          exact if_wf hg hw (List.getElem_mem hn2) ht
        · cases h
      have hl48 := ifL_in h
      obtain ⟨f2, g2, o, q1, q2, q3⟩ := ih (f, s) (g', s) rfl (by omega) hwf (by simp only; omega)
      simp only [Bool.not_true, cond_false, ew, bind_id, Option.bind_some]
      exact ⟨f2, g2, o, q1, q2, q3⟩
theorem isNo_contains (p : DProgram) (ks : Bool × List Int) (hl : ks.2.length ≤ 1000) : slices_ContainsFunc_int_by_AlongBefore_1 ks (p, ()) = some (ks.2.any fun k => !decide (0 ≤ k ∧ k < (p.2.2.2.2.length : Int))) := by
  rw [slices_ContainsFunc_int_by_AlongBefore_1_eq, slices_IndexFunc_int_by_AlongBefore_1_eq]
  exact contains_of (loop_find ks.2 (fun k => !decide (0 ≤ k ∧ k < (p.2.2.2.2.length : Int))) (fun i => slices_IndexFunc_int_by_AlongBefore_1_L0 ks (p, ()) (ks.2.length : Int) i) (fun i h => by
    rw [slices_IndexFunc_int_by_AlongBefore_1_L0_eq, gT (by omega), gT (by omega), gT (by omega), getD_at ks.2 _ i h, impl_AlongBefore_1_eq, isCommandNo, some_bind, some_bind, up1 i (by omega), bind_id]) (by rw [slices_IndexFunc_int_by_AlongBefore_1_L0_eq, gF (by omega)]))
theorem alongbefore_law (p : DProgram) (hs : SmProgram p) (hw : WfP p) (ks : Bool × List Int) (t : List DNode) (ht : WfN t) (hl : ks.2.length ≤ 1048576) (htl : t.length ≤ 1048576) :
    ∃ f g a ok, spec_AlongBefore p ks (false, t) = some ((f, a), ok) ∧ impl_AlongBefore p ks (false, t) = some ((g, a), ok) ∧ a.length ≤ 1048576 := by
  have hlim := lim_eq
  have hcm := hs.2.1
  have none' : ∃ (f g : Bool) (a : List DNode) (ok : Bool), (some ((true, []), false) : Option ((Bool × List DNode) × Bool)) = some ((f, a), ok) ∧ (some ((true, []), false) : Option ((Bool × List DNode) × Bool)) = some ((g, a), ok) ∧ a.length ≤ 1048576 := ⟨true, true, [], false, rfl, rfl, by simp⟩
  have ha : spec_l16Asked p 0 (false, t) = some (goodProgram p && (decide (0 ≤ (0 : Int) ∧ (0 : Int) < (p.2.2.2.2.length : Int)) && (kindT p.1 p.2.1 t == 2))) := by
    rw [spec_l16Asked_eq, spec_goodProgram p hs hw, some_bind, commandIn p hs, l7Asks p (false, t) ht]
    cases goodProgram p <;> cases decide (0 ≤ (0 : Int) ∧ (0 : Int) < (p.2.2.2.2.length : Int)) <;> rfl
  have hb : impl_isBefore p 0 (false, t) = some (goodProgram p && (decide (0 ≤ (0 : Int) ∧ (0 : Int) < (p.2.2.2.2.length : Int)) && (kindT p.1 p.2.1 t == 2))) := by
    rw [impl_isBefore_eq, impl_goodProgram p hs, some_bind, isCommandNo, isCondition]
    cases goodProgram p <;> cases decide (0 ≤ (0 : Int) ∧ (0 : Int) < (p.2.2.2.2.length : Int)) <;> rfl
  rw [spec_AlongBefore_eq, impl_AlongBefore_eq, ha, hb, some_bind, some_bind]
  cases h0 : (goodProgram p && (decide (0 ≤ (0 : Int) ∧ (0 : Int) < (p.2.2.2.2.length : Int)) && (kindT p.1 p.2.1 t == 2))) with
  | false => exact none'
  | true =>
    simp only [Bool.and_eq_true, decide_eq_true_eq] at h0
    rw [Bool.not_true, cond_false, cond_false]
    by_cases c : (ks.2.length : Int) > 10
    · rw [gT c, gT c]; exact none'
    rw [gF c, gF c, wr (by omega), l1All ks _ _ hl, isNo_contains p ks (by omega), some_bind, some_bind]
    have hall : (ks.2.all fun x => decide (0 ≤ x ∧ x ≤ (p.2.2.2.2.length : Int) - 1)) = !(ks.2.any fun k => !decide (0 ≤ k ∧ k < (p.2.2.2.2.length : Int))) := by
      rw [Bool.eq_iff_iff, List.all_eq_true, Bool.not_eq_true', List.any_eq_false]
      constructor
      · intro h x hx
        have := h x hx
        simp only [decide_eq_true_eq] at this
        simp only [Bool.not_eq_true', decide_eq_false_iff_not]
        omega
      · intro h x hx
        have := h x hx
        simp only [Bool.not_eq_true', decide_eq_false_iff_not] at this
        have := Decidable.of_not_not this
        simp only [decide_eq_true_eq]
        omega
    rw [hall]
    cases h1 : (ks.2.any fun k => !decide (0 ≤ k ∧ k < (p.2.2.2.2.length : Int))) with
    | true => exact none'
    | false =>
      have hk : ∀ x ∈ ks.2, 0 ≤ x ∧ x < (p.2.2.2.2.length : Int) := fun x hx => by
        have := List.any_eq_false.1 h1 x hx
        simp only [Bool.not_eq_true', decide_eq_false_iff_not] at this
        exact Decidable.of_not_not this
      obtain ⟨f, g, o, e1, e2, e3⟩ := along_both h0.1 hs hw ks (by omega) hk (true, []) false ks.2.length (false, t) (false, t) rfl (Nat.le_refl _) ht htl
      rw [List.take_of_length_le (Nat.le_refl _)] at e1 e2 e3
      have ecl : slices_Clone_Node (false, t) = some (false, t) := by rw [slices_Clone_Node_eq, cond_false, gT (by simp only [List.length_nil]; omega)]; rfl
      simp only [Bool.not_false, cond_false, Bool.not_true]
      rw [gT (by simp only [List.length_nil]; omega), wr (by omega), ecl, some_bind]
      simp only [List.nil_append, e1, e2, some_bind]
      cases h2 : alongT p ks.2 t with
      | none => exact none'
      | some s => exact ⟨f, g, s, true, rfl, rfl, e3 s h2⟩
theorem pure_FnExactAlongBefore (x0 : DProgram) (x1 : Bool × List Int) (x2 : Bool × List DNode) (w0 : WfD tyProgram x0) (w1 : WfD (.sl (.int .i64)) x1) (w2 : WfD (.sl tyNode) x2) : laws_FnExactAlongBefore x0 x1 x2 = some true := by
  rw [laws_FnExactAlongBefore_eq]
  by_cases c1 : (x1.2.length : Int) > 1048576
  · rw [gT c1]
  rw [gF c1]
  obtain ⟨r0, e0, h0⟩ := szProgram x0 w0 1048576 (by omega)
  rw [e0, some_bind]
  rcases h0 with h0 | ⟨h0, h1, hs⟩
  · rw [gT h0]
  rw [gF (by omega), szNodeS x2 r0 (by omega) w2.2.1, some_bind]
  rcases Int.lt_or_le (r0) (x2.2.length : Int) with c2 | c2
  · rw [if_neg (by omega), gT (by omega)]
  rw [if_pos c2]
  rw [gF (by omega), toProgram x0 hs, some_bind, toIntS x1 (by omega), some_bind, toNodeS x2 (by omega), some_bind]
  obtain ⟨f, g, a, ok, e1, e2, ha⟩ := alongbefore_law (cpProgram x0) (Sm_cp hs) (WfP_cp (WfD_prog w0)) (false, x1.2) x2.2 (show WfN x2.2 from WfD_nodes w2) (by simp only; omega) (by omega)
  have e1' : spec_AlongBefore ((cpProgram x0).1, ((cpProgram x0).2.1, (((cpProgram x0).2.2.1.1, (cpProgram x0).2.2.1.2), ((cpProgram x0).2.2.2.1, (cpProgram x0).2.2.2.2)))) (false, x1.2) (false, x2.2) = _ := e1
  have e2' : impl_AlongBefore ((cpProgram x0).1, ((cpProgram x0).2.1, (((cpProgram x0).2.2.1.1, (cpProgram x0).2.2.1.2), ((cpProgram x0).2.2.2.1, (cpProgram x0).2.2.2.2)))) (false, x1.2) (false, x2.2) = _ := e2
  have e3 : laws_eqProgram ((cpProgram x0).1, ((cpProgram x0).2.1, (((cpProgram x0).2.2.1.1, (cpProgram x0).2.2.1.2), ((cpProgram x0).2.2.2.1, (cpProgram x0).2.2.2.2)))) ((cpProgram x0).1, ((cpProgram x0).2.1, (((cpProgram x0).2.2.1.1, (cpProgram x0).2.2.1.2), ((cpProgram x0).2.2.2.1, (cpProgram x0).2.2.2.2)))) = some true := eqProgram_same _ (Sm_cp hs)
  obtain ⟨y, z, k1, e4, e5, e6⟩ := markProgram (cpProgram x0) (Sm_cp hs) 1 (by omega) (by omega)
  have m1 := markIntS false x1.2 k1 (by omega) (by omega) (by omega)
  have m2 := markNodeS_at (false, x2.2) (k1 + x1.2.length) (by simp only; omega) (by omega) (by simp only; omega)
  have m3 := markNodeS_at (g, a) 1 (by simp only; omega) (by omega) (by simp only; omega)
  have k3 := heldNodeS g a.length 1 (by omega) (by omega) (by omega)
  have q1 := eqNodeS_same g f a ha
  have q2 := eqIntS_same false false x1.2 (by omega)
  have q3 := eqNodeS_same false false x2.2 (by omega)
  simp only [e1', e2', some_bind, q1, q2, q3, beq_self_eq_true, bne_self_eq_false, Bool.not_true, cond_false, e3, e4, m1, m2, m3, k3, gF (show ¬ k1 + (x1.2.length : Int) + 2 * (x2.2.length : Int) < 0 by omega), gF (show ¬ (1 + 2 * (a.length : Int)) < 0 by omega)]

end Go.Proofs.Ytedfhboklcfanaa.R
