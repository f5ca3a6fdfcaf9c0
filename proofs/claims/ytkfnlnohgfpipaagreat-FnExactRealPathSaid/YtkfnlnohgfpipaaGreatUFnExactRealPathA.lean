/- The plain law of FnExactRealPath: what the two functions compute is the same. -/
import Derived.Test.YtkfnlnohgfpipaaGreatEFnExactRealPath
import Derived.Laws.MathBits
set_option linter.all false
namespace Go.Proofs.YtkfnlnohgfpipaaGreat.R
open Go.Rf
/-- The cut of the reference, bit by bit, is the remainder. -/
theorem cut_loop (n a : Nat) (hn : n ≤ 4611686018427387904) (ha : a < 2 ^ 64) (d : Nat) : ∀ i : Nat, i + d = n →
    spec_l1Cut_L0 (n : Int) (a : Int) ((a % 2 ^ (min i 64) : Nat) : Int) (i : Int) = some ((a % 2 ^ (min n 64) : Nat) : Int) := by
  induction d with
  | zero =>
    intro i hi
    obtain rfl : i = n := by omega
    rw [spec_l1Cut_L0_eq, gF (by omega)]
  | succ d ih =>
    intro i hi
    have e1 : IntKind.u64.wrap (i : Int) = (i : Int) := wru (by omega)
    rw [spec_l1Cut_L0_eq, gT (by omega), e1, gF (by omega), up1 i (by omega), bind_id]
    by_cases h64 : i < 64
    · have hlt : a % 2 ^ i < 2 ^ 64 := Nat.lt_of_le_of_lt (Nat.mod_le _ _) ha
      have hp : (2 : Nat) ^ i < 2 ^ 64 := Nat.pow_lt_pow_right (by decide) h64
      rw [shl_one i h64, bAnd_eq a (2 ^ i) ha hp, show min i 64 = i by omega, bOr_eq (a % 2 ^ i) (a &&& 2 ^ i) hlt (Nat.and_lt_two_pow _ hp), cut_step]
      have := ih (i + 1) (by omega)
      rw [show min (i + 1) 64 = i + 1 by omega] at this
      exact this
    · have e3 : bShl .u64 1 (i : Int) = 0 := by
        unfold bShl
        rw [show min ((i : Int)).toNat (IntKind.u64.bits) = 64 by simp only [Int.toNat_natCast, IntKind.bits]; omega, wru_mod]
        decide
      have hlt : a % 2 ^ (min i 64) < 2 ^ 64 := Nat.lt_of_le_of_lt (Nat.mod_le _ _) ha
      rw [e3, show (0 : Int) = ((0 : Nat) : Int) from rfl, bAnd_eq a 0 ha (by decide), bOr_eq _ (a &&& 0) hlt (by simp)]
      rw [show a % 2 ^ (min i 64) ||| a &&& 0 = a % 2 ^ (min (i + 1) 64) by simp; rw [show min i 64 = min (i + 1) 64 by omega]]
      exact ih (i + 1) (by omega)
theorem cut_nat (n a : Nat) (hn : n ≤ 4611686018427387904) (ha : a < 2 ^ 64) : spec_l1Cut (n : Int) (a : Int) = some ((a % 2 ^ (min n 64) : Nat) : Int) := by
  have := cut_loop n a hn ha n 0 (by omega)
  rw [spec_l1Cut_eq, bind_id]
  simpa [Nat.mod_one] using this

/-- The greatest word of a width. -/
def top (wide : Int) : Int := 2 ^ wide.toNat - 1
theorem top_in {wide : Int} (h : 1 ≤ wide ∧ wide ≤ 64) : 1 ≤ top wide ∧ top wide ≤ 18446744073709551615 := by
  obtain ⟨n, rfl⟩ := Int.eq_ofNat_of_zero_le (show 0 ≤ wide by omega)
  have h1 := pow_le64 (n := n) (by omega)
  have h2 : (2 : Nat) ^ 1 ≤ 2 ^ n := Nat.pow_le_pow_right (by decide) (by omega)
  have e : ((2 : Int) ^ n) = ((2 ^ n : Nat) : Int) := by simp
  simp only [top, Int.toNat_natCast, e]
  omega
theorem mask_top (wide : Int) (hw : 1 ≤ wide ∧ wide ≤ 64) : impl_mask wide = some (top wide) := by
  obtain ⟨n, rfl⟩ := Int.eq_ofNat_of_zero_le (show 0 ≤ wide by omega)
  have hp : 0 < (2 : Nat) ^ n := Nat.two_pow_pos _
  have e : ((2 : Int) ^ n) = ((2 ^ n : Nat) : Int) := by simp
  rw [impl_mask_eq, mask_eq n (by omega) (by omega), wr (by omega), gF (by omega)]
  simp only [top, Int.toNat_natCast, e]
  congr 1
  omega
/-- Is a word of a width? -/
def goodWord (wide a : Int) : Bool := decide (1 ≤ wide) && decide (wide ≤ 64) && decide (a ≤ top wide)
theorem goodWord_iff {wide a : Int} : goodWord wide a = true ↔ 1 ≤ wide ∧ wide ≤ 64 ∧ a ≤ top wide := by
  simp only [goodWord, Bool.and_eq_true, decide_eq_true_eq]
  omega
theorem isWide_eq (n : Int) : impl_isWide n = some (decide (1 ≤ n ∧ n ≤ 64)) := by
  rw [impl_isWide_eq]
  by_cases h : n ≥ 1
  · rw [gT h]; congr 1; apply decide_eq_decide.mpr; omega
  · rw [gF h]; congr 1; symm; apply decide_eq_false; omega
theorem l1In_eq (n lo hi : Int) : spec_l1In n lo hi = some (decide (lo ≤ n ∧ n ≤ hi)) := by
  rw [spec_l1In_eq]
  by_cases h : n ≥ lo
  · rw [gT h]; congr 1; apply decide_eq_decide.mpr; omega
  · rw [gF h]; congr 1; symm; apply decide_eq_false; omega
theorem l1Wide_eq (n : Int) : spec_l1Wide n = some (decide (1 ≤ n ∧ n ≤ 64)) := by rw [spec_l1Wide_eq, bind_id, l1In_eq]
theorem spec_goodWord (wide a : Int) (h : U64 a) : spec_GoodWord wide a = some (goodWord wide a) := by
  rw [spec_GoodWord_eq, l1Wide_eq, some_bind]
  by_cases hw : 1 ≤ wide ∧ wide ≤ 64
  · rw [gT hw]
    obtain ⟨h0, h1⟩ := h
    obtain ⟨n, rfl⟩ := Int.eq_ofNat_of_zero_le (show 0 ≤ wide by omega)
    obtain ⟨m, rfl⟩ := Int.eq_ofNat_of_zero_le h0
    have hm : m < 2 ^ 64 := by simpa using (show m < 18446744073709551616 by omega)
    rw [cut_nat n m (by omega) hm, some_bind, show min n 64 = n by omega]
    have e : ((2 : Int) ^ n) = ((2 ^ n : Nat) : Int) := by simp
    have hp : 0 < (2 : Nat) ^ n := Nat.two_pow_pos _
    congr 1
    rw [Bool.eq_iff_iff, beq_iff_eq, goodWord_iff]
    simp only [top, Int.toNat_natCast, e]
    constructor
    · intro h
      have h' : m % 2 ^ n = m := by exact_mod_cast h
      have := Nat.mod_lt m hp
      omega
    · intro h
      rw [Nat.mod_eq_of_lt (by omega)]
  · rw [gF hw]
    congr 1
    symm
    rw [← Bool.not_eq_true, goodWord_iff]
    omega
theorem impl_goodWord (wide a : Int) : impl_GoodWord wide a = some (goodWord wide a) := by
  rw [impl_GoodWord_eq, isWide_eq, some_bind]
  by_cases hw : 1 ≤ wide ∧ wide ≤ 64
  · rw [gT hw, mask_top wide hw, some_bind]
    congr 1
    rw [Bool.eq_iff_iff, goodWord_iff, decide_eq_true_eq]
    omega
  · rw [gF hw]
    congr 1
    symm
    rw [← Bool.not_eq_true, goodWord_iff]
    omega
theorem szNodeS (a : Bool × List DNode) (left : Int) (h0 : 0 ≤ left ∧ left ≤ 1048576) (hl : a.2.length ≤ big) : laws_szNodeS a left = some (if (a.2.length : Int) ≤ left then left - a.2.length else -1) := by
  rw [big_eq] at hl
  rw [laws_szNodeS_eq, wr (by omega)]
  by_cases h : (a.2.length : Int) ≤ left
  · rw [gF (by omega), if_pos h]
  · rw [gT (by omega), if_neg h]
theorem toNodeS (a : Bool × List DNode) (hl : a.2.length ≤ 1048576) : laws_toNodeS a = some (false, a.2) := by
  have hlim : lim = 1099511627776 := rfl
  rw [laws_toNodeS_eq, gT (by omega), gT (by omega), gT (by omega), gT (by omega), bind_id]
  have := loop_map a.2 (fun x => x) (fun o i => laws_toNodeS_L0 a o i) false (fun i h x hx => by
    rw [laws_toNodeS_L0_eq, gT (by omega), gT (by omega), gT (by omega), getD_at a.2 _ i h, laws_toNode_eq, some_bind, gT (by omega), gT (by simp only; omega), up1 i (by omega), bind_id, Int.toNat_natCast]) (fun x hx => by
    rw [laws_toNodeS_L0_eq, gF (by omega)]) (List.replicate (Int.toNat (a.2.length : Int)) (0, 0)) (by simp)
  rw [this]
  simp
theorem eqNodeS_self (a : Bool × List DNode) (hl : a.2.length ≤ 1048576) (b : Bool) : laws_eqNodeS a (b, a.2) = some true := by
  rw [laws_eqNodeS_eq, bF (by simp)]
  have := loop_all a.2 (fun _ => true) (.inr () : Bool ⊕ Unit) (.inl false) (fun i => laws_eqNodeS_L0 a (b, a.2) i) (fun i h => by
    rw [laws_eqNodeS_L0_eq, gT (by omega), gT (by omega), gT (by omega), gT (by omega), gT (by simp only; omega), getD_at a.2 _ i h, laws_eqNode_eq, bF (by simp), bF (by simp), some_bind, bF (by simp), up1 i (by omega), bind_id, cond_true]) (by
    rw [laws_eqNodeS_L0_eq, gF (by omega)])
  rw [this, show (a.2.all fun _ => true) = true by simp]
  rfl
theorem eqNodeS_same (f g : Bool) (l : List DNode) (hl : l.length ≤ 1048576) : laws_eqNodeS (f, l) (g, l) = some true := eqNodeS_self (f, l) hl g
def SmChange (c : DChange) : Prop := c.2.2.length ≤ 1048576
def SmCommand (c : DCommand) : Prop := c.1.2.length ≤ 1048576 ∧ c.2.2.length ≤ 1048576 ∧ ∀ d ∈ c.2.2, SmChange d
def SmProgram (p : DProgram) : Prop := p.2.2.1.2.length ≤ 1048576 ∧ p.2.2.2.2.length ≤ 1048576 ∧ ∀ c ∈ p.2.2.2.2, SmCommand c
theorem szChange (c : DChange) (left : Int) (h0 : 0 ≤ left ∧ left ≤ 1048576) (hl : c.2.2.length ≤ big) : ∃ r, laws_szChange c left = some r ∧ (r < 0 ∨ (0 ≤ r ∧ r ≤ left ∧ SmChange c)) := by
  rw [laws_szChange_eq, szNodeS c.2 left h0 hl, some_bind]
  by_cases h : (c.2.2.length : Int) ≤ left
  · rw [if_pos h, gF (by omega)]
    exact ⟨_, rfl, .inr ⟨by omega, by omega, by unfold SmChange; omega⟩⟩
  · rw [if_neg h, gT (by omega)]
    exact ⟨_, rfl, .inl (by omega)⟩
/-- a loop that counts down what may still come -/
theorem sz_loop {α : Type} (l : List α) (Q : α → Prop) (F : Int → Int → Option (Int ⊕ Int)) (hl : l.length ≤ 1048576)
    (hs : ∀ (i : Nat) (h : i < l.length) (left : Int), 0 ≤ left ∧ left ≤ 1048576 → (F left (i : Int) = some (.inl (-1))) ∨ ∃ r, 0 ≤ r ∧ r ≤ left ∧ Q l[i] ∧ F left (i : Int) = F r ((i + 1 : Nat) : Int))
    (he : ∀ left, F left (l.length : Int) = some (.inr left)) (left : Int) (h0 : 0 ≤ left ∧ left ≤ 1048576) : F left 0 = some (.inl (-1)) ∨ ∃ r, F left 0 = some (.inr r) ∧ 0 ≤ r ∧ r ≤ left ∧ ∀ x ∈ l, Q x := by
  have key : ∀ (d i : Nat) (left : Int), i + d = l.length → 0 ≤ left ∧ left ≤ 1048576 → F left (i : Int) = some (.inl (-1)) ∨ ∃ r, F left (i : Int) = some (.inr r) ∧ 0 ≤ r ∧ r ≤ left ∧ ∀ x ∈ l.drop i, Q x := by
    intro d
    induction d with
    | zero =>
      intro i left hi h0
      obtain rfl : i = l.length := by omega
      exact .inr ⟨left, he left, h0.1, Int.le_refl _, by simp⟩
    | succ d ih =>
      intro i left hi h0
      have hlt : i < l.length := by omega
      rcases hs i hlt left h0 with h | ⟨r, h1, h2, h3, h4⟩
      · exact .inl h
      · rw [h4]
        rcases ih (i + 1) r (by omega) ⟨h1, by omega⟩ with h | ⟨r', h5, h6, h7, h8⟩
        · exact .inl h
        · refine .inr ⟨r', h5, h6, by omega, fun x hx => ?_⟩
          rw [List.drop_eq_getElem_cons hlt] at hx
          rcases List.mem_cons.1 hx with rfl | hx
          · exact h3
          · exact h8 x hx
  have := key l.length 0 left (by omega) h0
  simpa using this
theorem szChangeS (a : Bool × List DChange) (left : Int) (h0 : 0 ≤ left ∧ left ≤ 1048576) (hl : a.2.length ≤ big) (hb : ∀ c ∈ a.2, c.2.2.length ≤ big) : ∃ r, laws_szChangeS a left = some r ∧ (r < 0 ∨ (0 ≤ r ∧ r ≤ left ∧ a.2.length ≤ 1048576 ∧ ∀ c ∈ a.2, SmChange c)) := by
  rw [big_eq] at hl
  rw [laws_szChangeS_eq, wr (by omega)]
  by_cases h : (a.2.length : Int) ≤ left
  · rw [gF (by omega)]
    rcases sz_loop a.2 SmChange (fun left i => laws_szChangeS_L0 a left i) (by omega) (fun i h left h0 => by
      obtain ⟨r, h1, h2⟩ := szChange a.2[i] left h0 (hb _ (List.getElem_mem h))
      rw [laws_szChangeS_L0_eq, gT (by omega), gT (by omega), gT (by omega), getD_at a.2 _ i h, h1, some_bind]
      rcases h2 with h2 | ⟨h2, h3, h4⟩
      · rw [gT h2]; exact .inl rfl
      · rw [gF (by omega), up1 i (by omega), bind_id]; exact .inr ⟨r, h2, h3, h4, rfl⟩) (fun left => by
      rw [laws_szChangeS_L0_eq, gF (by omega)]) (left - a.2.length) (by omega) with h1 | ⟨r, h1, h2, h3, h4⟩
    · rw [h1]; exact ⟨-1, rfl, .inl (by omega)⟩
    · rw [h1]; exact ⟨r, rfl, .inr ⟨h2, by omega, by omega, h4⟩⟩
  · rw [gT (by omega)]
    exact ⟨_, rfl, .inl (by omega)⟩
theorem szCommand (c : DCommand) (left : Int) (h0 : 0 ≤ left ∧ left ≤ 1048576) (h1 : c.1.2.length ≤ big) (hl : c.2.2.length ≤ big) (hb : ∀ d ∈ c.2.2, d.2.2.length ≤ big) : ∃ r, laws_szCommand c left = some r ∧ (r < 0 ∨ (0 ≤ r ∧ r ≤ left ∧ SmCommand c)) := by
  rw [laws_szCommand_eq, szNodeS c.1 left h0 h1, some_bind]
  by_cases h : (c.1.2.length : Int) ≤ left
  · rw [if_pos h, gF (by omega)]
    obtain ⟨r, h2, h3⟩ := szChangeS c.2 (left - c.1.2.length) (by omega) hl hb
    rw [h2, some_bind]
    rcases h3 with h3 | ⟨h3, h4, h5, h6⟩
    · rw [gT h3]; exact ⟨_, rfl, .inl (by omega)⟩
    · rw [gF (by omega)]; exact ⟨_, rfl, .inr ⟨h3, by omega, ⟨by omega, h5, h6⟩⟩⟩
  · rw [if_neg h, gT (by omega)]
    exact ⟨_, rfl, .inl (by omega)⟩
def BigCommand (c : DCommand) : Prop := c.1.2.length ≤ big ∧ c.2.2.length ≤ big ∧ ∀ d ∈ c.2.2, d.2.2.length ≤ big
theorem szCommandS (a : Bool × List DCommand) (left : Int) (h0 : 0 ≤ left ∧ left ≤ 1048576) (hl : a.2.length ≤ big) (hb : ∀ c ∈ a.2, BigCommand c) : ∃ r, laws_szCommandS a left = some r ∧ (r < 0 ∨ (0 ≤ r ∧ r ≤ left ∧ a.2.length ≤ 1048576 ∧ ∀ c ∈ a.2, SmCommand c)) := by
  rw [big_eq] at hl
  rw [laws_szCommandS_eq, wr (by omega)]
  by_cases h : (a.2.length : Int) ≤ left
  · rw [gF (by omega)]
    rcases sz_loop a.2 SmCommand (fun left i => laws_szCommandS_L0 a left i) (by omega) (fun i h left h0 => by
      obtain ⟨b1, b2, b3⟩ := hb _ (List.getElem_mem h)
      obtain ⟨r, h1, h2⟩ := szCommand a.2[i] left h0 b1 b2 b3
      rw [laws_szCommandS_L0_eq, gT (by omega), gT (by omega), gT (by omega), getD_at a.2 _ i h, h1, some_bind]
      rcases h2 with h2 | ⟨h2, h3, h4⟩
      · rw [gT h2]; exact .inl rfl
      · rw [gF (by omega), up1 i (by omega), bind_id]; exact .inr ⟨r, h2, h3, h4, rfl⟩) (fun left => by
      rw [laws_szCommandS_L0_eq, gF (by omega)]) (left - a.2.length) (by omega) with h1 | ⟨r, h1, h2, h3, h4⟩
    · rw [h1]; exact ⟨-1, rfl, .inl (by omega)⟩
    · rw [h1]; exact ⟨r, rfl, .inr ⟨h2, by omega, by omega, h4⟩⟩
  · rw [gT (by omega)]
    exact ⟨_, rfl, .inl (by omega)⟩
theorem WfD_big {p : DProgram} (w : WfD tyProgram p) : p.2.2.1.2.length ≤ big ∧ p.2.2.2.2.length ≤ big ∧ ∀ c ∈ p.2.2.2.2, BigCommand c := by
  obtain ⟨_, _, h1, h2⟩ := w
  refine ⟨h1.2.1, h2.2.1, fun c hc => ?_⟩
  obtain ⟨h3, h4⟩ := h2.2.2 c hc
  exact ⟨h3.2.1, h4.2.1, fun d hd => (h4.2.2 d hd).2.2.1⟩
theorem szProgram (p : DProgram) (w : WfD tyProgram p) (left : Int) (h0 : 0 ≤ left ∧ left ≤ 1048576) : ∃ r, laws_szProgram p left = some r ∧ (r < 0 ∨ (0 ≤ r ∧ r ≤ left ∧ SmProgram p)) := by
  obtain ⟨b1, b2, b3⟩ := WfD_big w
  rw [laws_szProgram_eq, szNodeS p.2.2.1 left h0 b1, some_bind]
  by_cases h : (p.2.2.1.2.length : Int) ≤ left
  · rw [if_pos h, gF (by omega)]
    obtain ⟨r, h2, h3⟩ := szCommandS p.2.2.2 (left - p.2.2.1.2.length) (by omega) b2 b3
    rw [h2, some_bind]
    rcases h3 with h3 | ⟨h3, h4, h5, h6⟩
    · rw [gT h3]; exact ⟨_, rfl, .inl (by omega)⟩
    · rw [gF (by omega)]; exact ⟨_, rfl, .inr ⟨h3, by omega, ⟨by omega, h5, h6⟩⟩⟩
  · rw [if_neg h, gT (by omega)]
    exact ⟨_, rfl, .inl (by omega)⟩
/-! a copy: no slice is nil -/
def cpChange (c : DChange) : DChange := (c.1, (false, c.2.2))
def cpCommand (c : DCommand) : DCommand := ((false, c.1.2), (false, c.2.2.map cpChange))
def cpProgram (p : DProgram) : DProgram := (p.1, (p.2.1, ((false, p.2.2.1.2), (false, p.2.2.2.2.map cpCommand))))
theorem toChangeS (a : Bool × List DChange) (hl : a.2.length ≤ 1048576) (hs : ∀ c ∈ a.2, SmChange c) : laws_toChangeS a = some (false, a.2.map cpChange) := by
  have hlim : lim = 1099511627776 := rfl
  rw [laws_toChangeS_eq, gT (by omega), gT (by omega), gT (by omega), gT (by omega), bind_id]
  exact loop_map a.2 cpChange (fun o i => laws_toChangeS_L0 a o i) false (fun i h x hx => by
    rw [laws_toChangeS_L0_eq, gT (by omega), gT (by omega), gT (by omega), getD_at a.2 _ i h, laws_toChange_eq, toNodeS _ (hs _ (List.getElem_mem h)), some_bind, some_bind, gT (by omega), gT (by simp only; omega), up1 i (by omega), bind_id, Int.toNat_natCast]
    rfl) (fun x hx => by
    rw [laws_toChangeS_L0_eq, gF (by omega)]) (List.replicate (Int.toNat (a.2.length : Int)) (0, (true, []))) (by simp)
theorem toCommandS (a : Bool × List DCommand) (hl : a.2.length ≤ 1048576) (hs : ∀ c ∈ a.2, SmCommand c) : laws_toCommandS a = some (false, a.2.map cpCommand) := by
  have hlim : lim = 1099511627776 := rfl
  rw [laws_toCommandS_eq, gT (by omega), gT (by omega), gT (by omega), gT (by omega), bind_id]
  exact loop_map a.2 cpCommand (fun o i => laws_toCommandS_L0 a o i) false (fun i h x hx => by
    obtain ⟨s1, s2, s3⟩ := hs _ (List.getElem_mem h)
    rw [laws_toCommandS_L0_eq, gT (by omega), gT (by omega), gT (by omega), getD_at a.2 _ i h, laws_toCommand_eq, toNodeS _ s1, some_bind, toChangeS _ s2 s3, some_bind, some_bind, gT (by omega), gT (by simp only; omega), up1 i (by omega), bind_id, Int.toNat_natCast]
    rfl) (fun x hx => by
    rw [laws_toCommandS_L0_eq, gF (by omega)]) (List.replicate (Int.toNat (a.2.length : Int)) ((true, []), (true, []))) (by simp)
theorem toProgram (p : DProgram) (hs : SmProgram p) : laws_toProgram p = some (cpProgram p) := by
  obtain ⟨s1, s2, s3⟩ := hs
  rw [laws_toProgram_eq, toNodeS _ s1, some_bind, toCommandS _ s2 s3, some_bind]
  rfl
/-- two loops over one list that find no difference -/
theorem eq_loop {α : Type} (l : List α) (F : Int → Option (Bool ⊕ Unit)) (hs : ∀ (i : Nat) (h : i < l.length), F (i : Int) = F ((i + 1 : Nat) : Int)) (he : F (l.length : Int) = some (.inr ())) : F 0 = some (.inr ()) := by
  have key : ∀ (d i : Nat), i + d = l.length → F (i : Int) = some (.inr ()) := by
    intro d
    induction d with
    | zero => intro i hi; obtain rfl : i = l.length := by omega
              exact he
    | succ d ih => intro i hi; rw [hs i (by omega)]; exact ih (i + 1) (by omega)
  simpa using key l.length 0 (by omega)
theorem eqChangeS_same (f g : Bool) (l : List DChange) (hl : l.length ≤ 1048576) (hs : ∀ c ∈ l, SmChange c) : laws_eqChangeS (f, l) (g, l) = some true := by
  rw [laws_eqChangeS_eq, bF (by simp)]
  have := eq_loop l (fun i => laws_eqChangeS_L0 (f, l) (g, l) i) (fun i h => by
    rw [laws_eqChangeS_L0_eq, gT (by simp only; omega), gT (by omega), gT (by simp only; omega), gT (by omega), gT (by simp only; omega), getD_at l _ i h, laws_eqChange_eq, bF (by simp), eqNodeS_same l[i].2.1 l[i].2.1 l[i].2.2 (hs _ (List.getElem_mem h)), some_bind, bF (by simp), some_bind, bF (by simp), up1 i (by omega), bind_id]) (by
    rw [laws_eqChangeS_L0_eq, gF (by simp only; omega)])
  rw [this]
  rfl
theorem eqCommandS_same (f g : Bool) (l : List DCommand) (hl : l.length ≤ 1048576) (hs : ∀ c ∈ l, SmCommand c) : laws_eqCommandS (f, l) (g, l) = some true := by
  rw [laws_eqCommandS_eq, bF (by simp)]
  have := eq_loop l (fun i => laws_eqCommandS_L0 (f, l) (g, l) i) (fun i h => by
    obtain ⟨s1, s2, s3⟩ := hs _ (List.getElem_mem h)
    rw [laws_eqCommandS_L0_eq, gT (by simp only; omega), gT (by omega), gT (by simp only; omega), gT (by omega), gT (by simp only; omega), getD_at l _ i h, laws_eqCommand_eq, eqNodeS_same l[i].1.1 l[i].1.1 l[i].1.2 s1, some_bind, bF (by simp), eqChangeS_same l[i].2.1 l[i].2.1 l[i].2.2 s2 s3, some_bind, bF (by simp), some_bind, bF (by simp), up1 i (by omega), bind_id]) (by
    rw [laws_eqCommandS_L0_eq, gF (by simp only; omega)])
  rw [this]
  rfl
theorem eqProgram_same (p : DProgram) (hs : SmProgram p) : laws_eqProgram p p = some true := by
  obtain ⟨s1, s2, s3⟩ := hs
  rw [laws_eqProgram_eq, bF (by simp), bF (by simp), eqNodeS_same p.2.2.1.1 p.2.2.1.1 p.2.2.1.2 s1, some_bind, bF (by simp), eqCommandS_same p.2.2.2.1 p.2.2.2.1 p.2.2.2.2 s2 s3, some_bind, bF (by simp)]
theorem Sm_cp {p : DProgram} (hs : SmProgram p) : SmProgram (cpProgram p) := by
  obtain ⟨s1, s2, s3⟩ := hs
  refine ⟨s1, by simpa [cpProgram] using s2, fun c hc => ?_⟩
  obtain ⟨c0, h1, rfl⟩ := List.mem_map.1 hc
  obtain ⟨q1, q2, q3⟩ := s3 c0 h1
  refine ⟨q1, by simpa [cpCommand] using q2, fun d hd => ?_⟩
  obtain ⟨d0, h2, rfl⟩ := List.mem_map.1 hd
  exact q3 d0 h2
theorem toIntS (a : Bool × List Int) (hl : a.2.length ≤ 1048576) : laws_toIntS a = some (false, a.2) := by
  have hlim := lim_eq
  rw [laws_toIntS_eq, gT (by omega), gT (by omega), gT (by omega), gT (by omega)]
  have := loop_map a.2 (fun x => x) (fun o i => laws_toIntS_L0 a o i) false (fun i h x hx => by
    rw [laws_toIntS_L0_eq, gT (by omega), gT (by omega), gT (by omega), gT (by omega), gT (by simp only; omega), getD_at a.2 _ i h, up1 i (by omega), bind_id, Int.toNat_natCast]) (fun x hx => by
    rw [laws_toIntS_L0_eq, gF (by omega)]) (List.replicate (Int.toNat (a.2.length : Int)) (0 : Int)) (by simp)
  rw [this, some_bind, List.map_id']
theorem eqIntS_same (f g : Bool) (l : List Int) (hl : l.length ≤ 1048576) : laws_eqIntS (f, l) (g, l) = some true := by
  rw [laws_eqIntS_eq, bF (by simp), eq_loop l (fun i => laws_eqIntS_L0 (f, l) (g, l) i) (fun i h => by
    rw [laws_eqIntS_L0_eq, gT (by simp only; omega), gT (by omega), gT (by simp only; omega), gT (by omega), gT (by simp only; omega), bF (by simp), up1 i (by omega), bind_id]) (by rw [laws_eqIntS_L0_eq, gF (by simp)]), some_bind]
theorem szIntS (a : Bool × List Int) (left : Int) (h0 : 0 ≤ left ∧ left ≤ 1048576) (hl : a.2.length ≤ big) : laws_szIntS a left = some (if (a.2.length : Int) ≤ left then left - a.2.length else -1) := by
  rw [big_eq] at hl
  rw [laws_szIntS_eq, wr (by omega)]
  by_cases h : (a.2.length : Int) ≤ left
  · rw [gF (by omega), if_pos h]
  · rw [gT (by omega), if_neg h]
/-- the numbers from k on, n of them -/
def countL (k : Int) : Nat → List Int
  | 0 => []
  | n + 1 => k :: countL (k + 1) n
theorem countL_length (n : Nat) : ∀ k : Int, (countL k n).length = n := by
  induction n with
  | zero => intro k; rfl
  | succ n ih => intro k; simp [countL, ih]
theorem markIntS_L0 (d : Nat) : ∀ (i : Nat) (b : Bool) (x : List Int) (k : Int), i + d = x.length → x.length ≤ 1048576 → 0 ≤ k → k + d ≤ 4000000000000000000 → laws_markIntS_L0 (b, x) k (i : Int) = some ((b, x.take i ++ countL k d), k + d) := by
  induction d with
  | zero =>
    intro i b x k hi hl hk hk2
    rw [laws_markIntS_L0_eq, gF (by simp only; omega), List.take_of_length_le (by omega)]
    simp [countL]
  | succ d ih =>
    intro i b x k hi hl hk hk2
    rw [laws_markIntS_L0_eq, gT (by simp only; omega), gT (by omega), gT (by simp only; omega), up1 i (by omega), wr (by omega), bind_id, Int.toNat_natCast, ih (i + 1) b (x.set i k) (k + 1) (by simp; omega) (by simpa using hl) (by omega) (by omega)]
    have e : (x.set i k).take (i + 1) = x.take i ++ [k] := by
      rw [List.take_succ_eq_append_getElem (by simpa using (by omega : i < x.length)), List.getElem_set_self, List.take_set_of_le (Nat.le_refl _)]
    rw [e, countL, List.append_assoc, List.singleton_append, show k + 1 + (d : Int) = k + ((d + 1 : Nat) : Int) by omega]
theorem markIntS (b : Bool) (x : List Int) (k : Int) (hl : x.length ≤ 1048576) (h0 : 0 ≤ k) (hk : k + x.length ≤ 4000000000000000000) : laws_markIntS (b, x) k = some ((b, countL k x.length), k + x.length) := by
  have := markIntS_L0 x.length 0 b x k (by omega) hl h0 hk
  have h' : laws_markIntS_L0 (b, x) k 0 = _ := this
  rw [laws_markIntS_eq, h', some_bind, List.take_zero, List.nil_append]
theorem heldIntS_L0 (d : Nat) : ∀ (i : Nat) (b : Bool) (x : List Int) (k : Int), i + d = x.length → x.length ≤ 1048576 → 0 ≤ k → k + d ≤ 4000000000000000000 → x.drop i = countL k d → laws_heldIntS_L0 (b, x) k (i : Int) = some (.inr (k + d)) := by
  induction d with
  | zero =>
    intro i b x k hi hl hk hk2 hx
    rw [laws_heldIntS_L0_eq, gF (by simp only; omega)]
    simp
  | succ d ih =>
    intro i b x k hi hl hk hk2 hx
    have hlt : i < x.length := by omega
    rw [List.drop_eq_getElem_cons hlt, countL] at hx
    obtain ⟨hx1, hx2⟩ := List.cons.inj hx
    rw [laws_heldIntS_L0_eq, gT (by simp only; omega), gT (by omega), gT (by simp only; omega), getD_at x _ i hlt, hx1, bF (by simp), up1 i (by omega), wr (by omega), bind_id, ih (i + 1) b x (k + 1) (by omega) hl (by omega) (by omega) hx2]
    congr 2
    omega
theorem heldIntS (b : Bool) (n : Nat) (k : Int) (hl : n ≤ 1048576) (h0 : 0 ≤ k) (hk : k + n ≤ 4000000000000000000) : laws_heldIntS (b, countL k n) k = some (k + n) := by
  have h1 := countL_length n k
  have := heldIntS_L0 n 0 b (countL k n) k (by omega) (by omega) h0 (by omega) rfl
  have h' : laws_heldIntS_L0 (b, countL k n) k 0 = _ := this
  rw [laws_heldIntS_eq, h', some_bind]
theorem getD_set_self {α : Type} (l : List α) (i : Nat) (x z : α) (h : i < l.length) : (l.set i x).getD i z = x := by
  simp [List.getD_eq_getElem?_getD, h]
/-- the numbers from k on, two for each node, n nodes -/
def countN (k : Int) : Nat → List DNode
  | 0 => []
  | n + 1 => (k, IntKind.u64.wrap (k + 1)) :: countN (k + 2) n
theorem countN_length (n : Nat) : ∀ k : Int, (countN k n).length = n := by
  induction n with
  | zero => intro k; rfl
  | succ n ih => intro k; simp [countN, ih]
theorem markNodeS_L0 (d : Nat) : ∀ (i : Nat) (b : Bool) (x : List DNode) (k : Int), i + d = x.length → x.length ≤ 1048576 → 0 ≤ k → k + 2 * d ≤ 4000000000000000000 → laws_markNodeS_L0 (b, x) k (i : Int) = some ((b, x.take i ++ countN k d), k + 2 * d) := by
  induction d with
  | zero =>
    intro i b x k hi hl hk hk2
    rw [laws_markNodeS_L0_eq, gF (by simp only; omega), List.take_of_length_le (by omega)]
    simp [countN]
  | succ d ih =>
    intro i b x k hi hl hk hk2
    have hlt : i < x.length := by omega
    have hw : IntKind.i64.wrap (k + 1) = k + 1 := wr (by omega)
    have e1 : (x.set i (k, (x.getD i (0, 0)).2)).getD i (0, 0) = (k, (x.getD i (0, 0)).2) := getD_set_self x i _ _ hlt
    rw [laws_markNodeS_L0_eq, gT (by simp only; omega), gT (by omega), gT (by simp only; omega), gT (by omega), gT (by rw [List.length_set]; simp only; omega), up1 i (by omega), hw, wr (by omega), bind_id]
    simp only [Int.toNat_natCast, e1, List.set_set]
    rw [ih (i + 1) b (x.set i (k, IntKind.u64.wrap (k + 1))) (k + 1 + 1) (by rw [List.length_set]; omega) (by rw [List.length_set]; exact hl) (by omega) (by omega)]
    have e : (x.set i (k, IntKind.u64.wrap (k + 1))).take (i + 1) = x.take i ++ [(k, IntKind.u64.wrap (k + 1))] := by
      rw [List.take_succ_eq_append_getElem (by rw [List.length_set]; exact hlt), List.getElem_set_self, List.take_set_of_le (Nat.le_refl _)]
    rw [e, countN, List.append_assoc, List.singleton_append, show k + 1 + 1 + 2 * (d : Int) = k + 2 * ((d + 1 : Nat) : Int) by omega, show k + 1 + 1 = k + 2 by omega]
theorem markNodeS_at (a : Bool × List DNode) (k : Int) (hl : a.2.length ≤ 1048576) (h0 : 0 ≤ k) (hk : k + 2 * a.2.length ≤ 4000000000000000000) : laws_markNodeS a k = some ((a.1, countN k a.2.length), k + 2 * a.2.length) := by
  have h2 := markNodeS_L0 a.2.length 0 a.1 a.2 k (by omega) hl h0 hk
  have h' : laws_markNodeS_L0 (a.1, a.2) k 0 = _ := h2
  rw [laws_markNodeS_eq, h', some_bind, List.take_zero, List.nil_append]
theorem markNodeS (a : Bool × List DNode) (k : Int) (hl : a.2.length ≤ 1048576) (h0 : 0 ≤ k) (hk : k + 2 * 1048576 ≤ 4000000000000000000) : ∃ y k', y.length = a.2.length ∧ laws_markNodeS a k = some ((a.1, y), k') ∧ k ≤ k' ∧ k' ≤ k + 2 * 1048576 :=
  ⟨_, _, countN_length _ _, markNodeS_at a k hl h0 (by omega), by omega, by omega⟩
theorem loop_mark {α : Type} (P : α → Prop) (A : Int) (hA : 0 ≤ A) (F : Bool × List α → Int → Int → Option ((Bool × List α) × Int)) (b : Bool) (n : Nat)
    (hs : ∀ (i : Nat) (x : List α) (k : Int) (h : i < x.length), x.length = n → P x[i] → 0 ≤ k → k + A ≤ 4000000000000000000 → ∃ e k', F (b, x) k (i : Int) = F (b, x.set i e) k' ((i + 1 : Nat) : Int) ∧ k ≤ k' ∧ k' ≤ k + A)
    (he : ∀ (x : List α) (k : Int), x.length = n → F (b, x) k (n : Int) = some ((b, x), k)) (d : Nat) : ∀ (i : Nat) (x : List α) (k : Int), i + d = n → x.length = n → (∀ e ∈ x.drop i, P e) → 0 ≤ k → k + d * A ≤ 4000000000000000000 →
    ∃ y k', y.length = x.length ∧ F (b, x) k (i : Int) = some ((b, y), k') ∧ k ≤ k' ∧ k' ≤ k + d * A := by
  induction d with
  | zero =>
    intro i x k hi hx hp hk hk2
    obtain rfl : i = n := by omega
    exact ⟨x, k, rfl, he x k hx, by omega, by simp⟩
  | succ d ih =>
    intro i x k hi hx hp hk hk2
    have e1 : ((d + 1 : Nat) : Int) * A = d * A + A := by rw [Int.natCast_add, Int.add_mul]; simp
    have e2 : 0 ≤ (d : Int) * A := Int.mul_nonneg (by omega) hA
    rw [e1] at hk2
    have hlt : i < x.length := by omega
    rw [List.drop_eq_getElem_cons hlt] at hp
    obtain ⟨e, k1, q2, q3, q4⟩ := hs i x k hlt hx (hp _ List.mem_cons_self) hk (by omega)
    obtain ⟨y, k2, r1, r2, r3, r4⟩ := ih (i + 1) (x.set i e) k1 (by omega) (by rw [List.length_set]; exact hx) (fun c hc => by
      rw [List.drop_set_of_lt (by omega)] at hc
      exact hp c (List.mem_cons_of_mem _ hc)) (by omega) (by omega)
    rw [List.length_set] at r1
    exact ⟨y, k2, r1, by rw [q2, r2], by omega, by rw [e1]; omega⟩
theorem markChangeS (a : Bool × List DChange) (k : Int) (hl : a.2.length ≤ 1048576) (hs : ∀ c ∈ a.2, SmChange c) (h0 : 0 ≤ k) (hk : k + 1048576 * 2097153 ≤ 4000000000000000000) : ∃ y k', y.length = a.2.length ∧ laws_markChangeS a k = some ((a.1, y), k') ∧ k ≤ k' ∧ k' ≤ k + 1048576 * 2097153 := by
  obtain ⟨y, k', h1, h2, h3, h4⟩ := loop_mark SmChange 2097153 (by omega) laws_markChangeS_L0 a.1 a.2.length (fun i x k h hx hp hk hk2 => by
    have hw : IntKind.i64.wrap (k + 1) = k + 1 := wr (by omega)
    obtain ⟨y, k', q1, q2, q3, q4⟩ := markNodeS x[i].2 (k + 1) hp (by omega) (by omega)
    refine ⟨(k, (x[i].2.1, y)), k', ?_, by omega, by omega⟩
    have e0 : x.getD i (0, (true, [])) = x[i] := by simp [List.getD_eq_getElem?_getD, h]
    have e1 : (x.set i (k, x[i].2)).getD i (0, (true, [])) = (k, x[i].2) := getD_set_self x i _ _ h
    rw [laws_markChangeS_L0_eq, gT (by simp only; omega), gT (by omega), gT (by simp only; omega), gT (by omega), gT (by rw [List.length_set]; simp only; omega), up1 i (by omega), hw]
    have q2' : laws_markNodeS (x[i].2.1, x[i].2.2) (k + 1) = some ((x[i].2.1, y), k') := q2
    simp only [Int.toNat_natCast, e0, e1, q2', some_bind, bind_id, List.set_set]) (fun x k hx => by rw [laws_markChangeS_L0_eq, gF (by simp only; omega)]) a.2.length 0 a.2 k (by omega) rfl (by simpa using hs) h0 (by omega)
  have h' : laws_markChangeS_L0 (a.1, a.2) k 0 = _ := h2
  exact ⟨y, k', h1, by rw [laws_markChangeS_eq, h', some_bind], h3, by omega⟩
theorem markCommandS (a : Bool × List DCommand) (k : Int) (hl : a.2.length ≤ 1048576) (hs : ∀ c ∈ a.2, SmCommand c) (h0 : 0 ≤ k) (hk : k + 1048576 * 2199026401280 ≤ 4000000000000000000) : ∃ y k', y.length = a.2.length ∧ laws_markCommandS a k = some ((a.1, y), k') ∧ k ≤ k' ∧ k' ≤ k + 1048576 * 2199026401280 := by
  obtain ⟨y, k', h1, h2, h3, h4⟩ := loop_mark SmCommand 2199026401280 (by omega) laws_markCommandS_L0 a.1 a.2.length (fun i x k h hx hp hk hk2 => by
    obtain ⟨y, k1, q1, q2, q3, q4⟩ := markNodeS x[i].1 k hp.1 (by omega) (by omega)
    obtain ⟨z, k2, r1, r2, r3, r4⟩ := markChangeS x[i].2 k1 hp.2.1 hp.2.2 (by omega) (by omega)
    refine ⟨((x[i].1.1, y), (x[i].2.1, z)), k2, ?_, by omega, by omega⟩
    have e0 : x.getD i ((true, []), (true, [])) = x[i] := by simp [List.getD_eq_getElem?_getD, h]
    have e1 : (x.set i ((x[i].1.1, y), x[i].2)).getD i ((true, []), (true, [])) = ((x[i].1.1, y), x[i].2) := getD_set_self x i _ _ h
    have q2' : laws_markNodeS (x[i].1.1, x[i].1.2) k = some ((x[i].1.1, y), k1) := q2
    have r2' : laws_markChangeS (x[i].2.1, x[i].2.2) k1 = some ((x[i].2.1, z), k2) := r2
    rw [laws_markCommandS_L0_eq, gT (by simp only; omega), gT (by omega), gT (by simp only; omega), up1 i (by omega)]
    simp only [Int.toNat_natCast, e0, q2', some_bind]
    rw [gT (by omega), gT (by omega)]
    simp only [e1, r2', some_bind, bind_id, List.set_set]) (fun x k hx => by rw [laws_markCommandS_L0_eq, gF (by simp only; omega)]) a.2.length 0 a.2 k (by omega) rfl (by simpa using hs) h0 (by omega)
  have h' : laws_markCommandS_L0 (a.1, a.2) k 0 = _ := h2
  exact ⟨y, k', h1, by rw [laws_markCommandS_eq, h', some_bind], h3, by omega⟩
/-- the laws write over their own copy of a program -/
theorem markProgram (p : DProgram) (hs : SmProgram p) (k : Int) (h0 : 0 ≤ k) (hk : k ≤ 1000000000) : ∃ y z k', laws_markProgram p.1 p.2.1 (p.2.2.1.1, p.2.2.1.2) (p.2.2.2.1, p.2.2.2.2) k = some (y, (z, k')) ∧ k ≤ k' ∧ k' ≤ 3000000000000000000 := by
  obtain ⟨y, k1, q1, q2, q3, q4⟩ := markNodeS p.2.2.1 k hs.1 (by omega) (by omega)
  obtain ⟨z, k2, r1, r2, r3, r4⟩ := markCommandS p.2.2.2 k1 hs.2.1 hs.2.2 (by omega) (by omega)
  have q2' : laws_markNodeS (p.2.2.1.1, p.2.2.1.2) k = _ := q2
  have r2' : laws_markCommandS (p.2.2.2.1, p.2.2.2.2) k1 = _ := r2
  exact ⟨_, _, k2, by rw [laws_markProgram_eq, q2', some_bind, r2', some_bind], by omega, by omega⟩
/-- What an operation needs: how many operands, their kind, its own kind. -/
def need (op : Int) : Int × Int × Int :=
  if op = 1 ∨ op = 2 then (0, 1, 1) else if op = 20 then (0, 2, 2) else if op = 13 then (1, 1, 1) else if op = 19 then (1, 2, 2)
  else if 3 ≤ op ∧ op ≤ 12 then (2, 1, 1) else if 14 ≤ op ∧ op ≤ 16 then (2, 1, 2) else if op = 17 ∨ op = 18 then (2, 2, 2) else (0, 0, 0)
theorem need_cases (op : Int) : need op = (0, 1, 1) ∨ need op = (0, 2, 2) ∨ need op = (1, 1, 1) ∨ need op = (1, 2, 2) ∨ need op = (2, 1, 1) ∨ need op = (2, 1, 2) ∨ need op = (2, 2, 2) ∨ need op = (0, 0, 0) := by
  unfold need
  repeat' split
  all_goals simp
theorem need_two (op : Int) : ∃ m : Nat, (need op).1 = (m : Int) ∧ m ≤ 2 := by
  rcases need_cases op with h | h | h | h | h | h | h | h <;> rw [h]
  · exact ⟨0, rfl, by omega⟩
  · exact ⟨0, rfl, by omega⟩
  · exact ⟨1, rfl, by omega⟩
  · exact ⟨1, rfl, by omega⟩
  · exact ⟨2, rfl, by omega⟩
  · exact ⟨2, rfl, by omega⟩
  · exact ⟨2, rfl, by omega⟩
  · exact ⟨0, rfl, by omega⟩
theorem l2Need (op : Int) : spec_l2Need op = some (need op) := by
  rw [spec_l2Need_eq, l1In_eq, l1In_eq]
  unfold need
  by_cases h1 : op = 1
  · simp [h1]
  · by_cases h2 : op = 2
    · simp [h2]
    · by_cases h3 : op = 20
      · simp [h3]
      · by_cases h4 : op = 13
        · simp [h4]
        · by_cases h5 : op = 19
          · simp [h5]
          · by_cases h6 : 3 ≤ op ∧ op ≤ 12
            · simp [h1, beqF h1, h2, beqF h2, h3, beqF h3, h4, beqF h4, h5, beqF h5, h6]
            · by_cases h8 : 14 ≤ op ∧ op ≤ 16
              · have h6' : ¬ (3 ≤ op ∧ op ≤ 12) := h6
                simp [h1, beqF h1, h2, beqF h2, h3, beqF h3, h4, beqF h4, h5, beqF h5, h6', h8]
              · by_cases h10 : op = 17
                · simp [h10]
                · by_cases h11 : op = 18
                  · simp [h11]
                  · have h6' : ¬ (3 ≤ op ∧ op ≤ 12) := h6
                    have h8' : ¬ (14 ≤ op ∧ op ≤ 16) := h8
                    simp [h1, beqF h1, h2, beqF h2, h3, beqF h3, h4, beqF h4, h5, beqF h5, h6', h8', h10, beqF h10, h11, beqF h11]
/-- The program names no kind for an operation without operands. -/
def needI (op : Int) : Int × Int × Int := if op = 1 ∨ op = 2 then (0, 0, 1) else if op = 20 then (0, 0, 2) else need op
theorem operandsOf (op : Int) : impl_operandsOf op = some (needI op) := by
  rw [impl_operandsOf_eq]
  unfold needI need
  by_cases h1 : op = 1
  · simp [h1]
  · by_cases h2 : op = 2
    · simp [h2]
    · by_cases h3 : op = 20
      · simp [h3]
      · by_cases h4 : op = 13
        · simp [h4]
        · by_cases h5 : op = 19
          · simp [h5]
          · by_cases h6 : 3 ≤ op
            · by_cases h7 : op ≤ 12
              · simp [h1, beqF h1, h2, beqF h2, h3, beqF h3, h4, beqF h4, h5, beqF h5, h6, h7]
              · by_cases h8 : 14 ≤ op
                · by_cases h9 : op ≤ 16
                  · simp [h1, beqF h1, h2, beqF h2, h3, beqF h3, h4, beqF h4, h5, beqF h5, h6, h7, h8, h9]
                  · by_cases h10 : op = 17
                    · simp [h10]
                    · by_cases h11 : op = 18
                      · simp [h11]
                      · simp [h1, beqF h1, h2, beqF h2, h3, beqF h3, h4, beqF h4, h5, beqF h5, h6, h7, h8, h9, h10, beqF h10, h11, beqF h11]
                · have h10 : ¬ op = 17 := by omega
                  have h11 : ¬ op = 18 := by omega
                  simp [h1, beqF h1, h2, beqF h2, h3, beqF h3, h4, beqF h4, h5, beqF h5, h6, h7, h8, h10, beqF h10, h11, beqF h11]
            · have h8 : ¬ 14 ≤ op := by omega
              have h10 : ¬ op = 17 := by omega
              have h11 : ¬ op = 18 := by omega
              simp [h1, beqF h1, h2, beqF h2, h3, beqF h3, h4, beqF h4, h5, beqF h5, h6, h8, h10, beqF h10, h11, beqF h11]
theorem needI_parts (op : Int) : (needI op).1 = (need op).1 ∧ (needI op).2.2 = (need op).2.2 ∧ ((need op).1 = 0 ∨ (needI op).2.1 = (need op).2.1) := by
  unfold needI
  by_cases h1 : op = 1 ∨ op = 2
  · simp [need, h1]
  · by_cases h2 : op = 20
    · simp [need, h2]
    · simp [h1, h2]
/-- Is an operation's number right? -/
def leafOk (wide vars op n : Int) : Bool := if op = 1 then goodWord wide n else if op = 2 then decide (n < vars) else if op = 20 then decide (n < 2) else n == 0
theorem l2N (wide vars : Int) (x : DNode) (hv : 0 ≤ vars ∧ vars ≤ 4) (h : U64 x.2) : spec_l2N wide vars x = some (leafOk wide vars x.1 x.2) := by
  rw [spec_l2N_eq, spec_goodWord wide x.2 h, wru (by omega)]
  unfold leafOk
  by_cases a1 : x.1 = 1
  · simp [a1]
  · by_cases a2 : x.1 = 2
    · simp [a2]
    · by_cases a3 : x.1 = 20
      · simp [a3]
      · simp [a1, a2, a3, beqF a1, beqF a2, beqF a3]
theorem isLeafRight (wide vars : Int) (x : DNode) (hv : 0 ≤ vars ∧ vars ≤ 4) : impl_isLeafRight wide vars x = some (leafOk wide vars x.1 x.2) := by
  rw [impl_isLeafRight_eq, impl_goodWord wide x.2, wru (by omega)]
  unfold leafOk
  by_cases a1 : x.1 = 1
  · simp [a1]
  · by_cases a2 : x.1 = 2
    · simp [a2]
    · by_cases a3 : x.1 = 20
      · simp [a3]
        omega
      · simp [a1, a2, a3, beqF a1, beqF a2, beqF a3]
/-- One operation on the stack of kinds. -/
def kstep (wide vars : Int) (st : List Int) (x : DNode) : Option (List Int) :=
  if (need x.1).2.2 = 0 then none else if leafOk wide vars x.1 x.2 = true then
    (if (st.length : Int) < (need x.1).1 then none else if (st.drop (st.length - (need x.1).1.toNat)).all (fun y => y == (need x.1).2.1) = true then some (st.take (st.length - (need x.1).1.toNat) ++ [(need x.1).2.2]) else none)
  else none
def kfold (wide vars : Int) : List DNode → List Int → Option (List Int)
  | [], st => some st
  | x :: xs, st => (kstep wide vars st x).bind (kfold wide vars xs)
/-- A term's kind: 0 for none. -/
def kindT (wide vars : Int) (t : List DNode) : Int :=
  if 1 ≤ wide ∧ wide ≤ 64 ∧ 1 ≤ vars ∧ vars ≤ 4 ∧ 1 ≤ t.length ∧ t.length ≤ 48 then (match kfold wide vars t [] with
    | some [a] => a
    | _ => 0) else 0
theorem l2Kind_L2 (wide vars part own n i : Int) (t : Bool × List DNode) (m : Nat) : ∀ (b : Bool) (st : List Int), m ≤ st.length → st.length < 1000 →
    spec_l2Kind_L2 wide vars (b, st) (m : Int) part own t n i = if (st.drop (st.length - m)).all (fun y => y == part) = true then some (.inr (b, st.take (st.length - m))) else some (.inl 0) := by
  induction m with
  | zero =>
    intro b st hm hs
    rw [spec_l2Kind_L2_eq, gF (by omega)]
    simp
  | succ m ih =>
    intro b st hm hs
    rcases List.eq_nil_or_concat st with rfl | ⟨st', a, rfl⟩
    · simp at hm
    · rw [List.concat_eq_append] at *
      simp only [List.length_append, List.length_singleton] at hm hs ⊢
      have e1 : IntKind.i64.wrap (((st'.length + 1 : Nat) : Int) - 1) = (st'.length : Int) := by rw [wr (by omega)]; omega
      have e2 : IntKind.i64.wrap (((m + 1 : Nat) : Int) - 1) = (m : Int) := by rw [wr (by omega)]; omega
      have e3 : (st' ++ [a]).getD (Int.toNat (st'.length : Int)) 0 = a := by
        rw [getD_at _ _ _ (by simp)]
        simp
      have e4 : (st' ++ [a]).take st'.length = st' := List.take_left' rfl
      rw [spec_l2Kind_L2_eq]
      simp only [List.length_append, List.length_singleton]
      rw [e1, e2, e3, gT (by omega), gT (by omega), gT (by omega), gT (by omega), gT (by omega), Int.toNat_natCast, e4, List.drop_zero, bind_id,
        show st'.length + 1 - (m + 1) = st'.length - m by omega, List.drop_append_of_le_length (by omega), List.all_append, List.take_append_of_le_length (by omega)]
      by_cases ha : a = part
      · rw [bF (by simp [ha]), ih b st' (by omega) (by omega)]
        simp [ha]
      · rw [bT (by simp [ha])]
        simp [ha]
theorem l2Kind_L0 (wide vars : Int) (t : Bool × List DNode) (ht : t.2.length ≤ 48) (hv : 0 ≤ vars ∧ vars ≤ 4) (hw : ∀ x ∈ t.2, U64 x.2) (d : Nat) : ∀ (i : Nat) (b : Bool) (st : List Int), i + d = t.2.length → st.length ≤ i →
    (kfold wide vars (t.2.drop i) st = none ∧ spec_l2Kind_L0 wide vars (b, st) t (t.2.length : Int) (i : Int) = some (.inl 0)) ∨ ∃ b' s, kfold wide vars (t.2.drop i) st = some s ∧ spec_l2Kind_L0 wide vars (b, st) t (t.2.length : Int) (i : Int) = some (.inr (b', s)) := by
  induction d with
  | zero =>
    intro i b st hi hs
    rw [spec_l2Kind_L0_eq, gF (by omega), List.drop_of_length_le (by omega)]
    exact .inr ⟨b, st, rfl, rfl⟩
  | succ d ih =>
    intro i b st hi hs
    have hlt : i < t.2.length := by omega
    have hx := hw _ (List.getElem_mem hlt)
    have hlim : lim = 1099511627776 := rfl
    rw [spec_l2Kind_L0_eq, gT (by omega), gT (by omega), gT (by omega), getD_at t.2 _ i hlt, l2Need, some_bind, List.drop_eq_getElem_cons hlt]
    simp only [kfold, kstep]
    rw [l2N wide vars _ hv hx]
    by_cases h0 : (need t.2[i].1).2.2 = 0
    · rw [bT (by simp [h0]), if_pos h0]; exact .inl ⟨rfl, rfl⟩
    · rw [bF (by simp [h0]), if_neg h0, some_bind]
      cases hl : leafOk wide vars t.2[i].1 t.2[i].2 with
      | false => exact .inl ⟨rfl, rfl⟩
      | true =>
        rw [bF (by simp), if_pos rfl]
        by_cases hn : (st.length : Int) < (need t.2[i].1).1
        · rw [gT hn, if_pos hn]; exact .inl ⟨rfl, rfl⟩
        · rw [gF hn, if_neg hn]
          obtain ⟨m, hm, hm2⟩ := need_two t.2[i].1
          rw [hm] at hn ⊢
          rw [Int.toNat_natCast, l2Kind_L2 wide vars _ _ _ _ t m b st (by omega) (by omega)]
          by_cases ha : (st.drop (st.length - m)).all (fun y => y == (need t.2[i].1).2.1) = true
          · rw [if_pos ha, if_pos ha]
            simp only [some_bind]
            rw [gT (by simp; omega), up1 i (by omega), bind_id]
            exact ih (i + 1) _ _ (by omega) (by simp; omega)
          · rw [if_neg ha, if_neg ha, some_bind]
            exact .inl ⟨rfl, rfl⟩
theorem l2Kind (wide vars : Int) (t : Bool × List DNode) (hw : ∀ x ∈ t.2, U64 x.2) : spec_l2Kind wide vars t = some (kindT wide vars t.2) := by
  rw [spec_l2Kind_eq, l1Wide_eq, l1In_eq, l1In_eq, some_bind, some_bind, some_bind]
  unfold kindT
  by_cases h1 : 1 ≤ wide ∧ wide ≤ 64
  · by_cases h3 : 1 ≤ vars ∧ vars ≤ 4
    · by_cases h5 : 1 ≤ (t.2.length : Int) ∧ (t.2.length : Int) ≤ 48
      · rw [bF (by simp [h1]), bF (by simp [h3]), bF (by simp; omega), if_pos (by omega)]
        rcases l2Kind_L0 wide vars t (by omega) (by omega) hw t.2.length 0 true [] (by omega) (by simp) with ⟨k1, k2⟩ | ⟨b, s, k1, k2⟩
        · rw [show ((0 : Nat) : Int) = 0 from rfl] at k2
          rw [k2, some_bind]
          rw [List.drop_zero] at k1
          rw [k1]
        · rw [show ((0 : Nat) : Int) = 0 from rfl] at k2
          rw [k2, some_bind]
          rw [List.drop_zero] at k1
          rw [k1]
          match s with
          | [] => simp
          | [a] => simp
          | a :: b :: st =>
            have : (((a :: b :: st).length : Int) != 1) = true := by simp; omega
            simp only
            rw [bT this]
      · rw [bF (by simp [h1]), bF (by simp [h3]), bT (by simp; omega), if_neg (by omega)]
    · rw [bF (by simp [h1]), bT (by simp; omega), if_neg (by omega)]
  · rw [bT (by simp; omega), if_neg (by omega)]
theorem kindT_in {wide vars : Int} {t : List DNode} (h : kindT wide vars t ≠ 0) : 1 ≤ wide ∧ wide ≤ 64 ∧ 1 ≤ vars ∧ vars ≤ 4 ∧ 1 ≤ t.length ∧ t.length ≤ 48 := by
  unfold kindT at h
  split at h
  · assumption
  · exact absurd rfl h
theorem kfold_last (wide vars : Int) : ∀ (xs : List DNode) (st r : List Int), kfold wide vars xs st = some r → ∀ h : xs ≠ [], (∃ r', r = r' ++ [(need (xs.getLast h).1).2.2]) ∧ (need (xs.getLast h).1).2.2 ≠ 0 := by
  intro xs
  induction xs with
  | nil => intro st r _ h; exact absurd rfl h
  | cons x xs ih =>
    intro st r hr h
    simp only [kfold, Option.bind_eq_some_iff] at hr
    obtain ⟨s, h1, h2⟩ := hr
    cases xs with
    | nil =>
      simp only [kfold, Option.some.injEq] at h2
      subst h2
      simp only [List.getLast_singleton]
      unfold kstep at h1
      split at h1
      · simp at h1
      · rename_i hne
        split at h1
        · split at h1
          · simp at h1
          · split at h1
            · simp only [Option.some.injEq] at h1
              exact ⟨⟨_, h1.symm⟩, hne⟩
            · simp at h1
        · simp at h1
    | cons y ys =>
      have := ih s r h2 (by simp)
      rwa [List.getLast_cons (by simp)]
/-- a good term's kind is its last operation's -/
theorem kindT_last {wide vars : Int} {t : List DNode} (h : kindT wide vars t ≠ 0) (hne : t ≠ []) : kfold wide vars t [] = some [kindT wide vars t] ∧ kindT wide vars t = (need (t.getLast hne).1).2.2 := by
  unfold kindT at h ⊢
  split at h
  · rename_i hc
    rw [if_pos hc]
    split at h
    · rename_i a ha
      obtain ⟨⟨r', e⟩, h0⟩ := kfold_last wide vars t [] [a] ha hne
      have hr : r' = [] := by
        have := congrArg List.length e
        simp at this
        exact this
      subst hr
      rw [ha]
      exact ⟨rfl, by simpa using e⟩
    · exact absurd rfl h
  · exact absurd rfl h
theorem contains_kind (b : Bool) (l : List Int) (a : Int) (hl : l.length ≤ 1000) : slices_ContainsFunc_int_by_GoodTerm_1 (b, l) (a, ()) = some (l.any fun y => a != y) := by
  rw [slices_ContainsFunc_int_by_GoodTerm_1_eq, slices_IndexFunc_int_by_GoodTerm_1_eq]
  exact contains_of (loop_find l (fun y => a != y) (fun i => slices_IndexFunc_int_by_GoodTerm_1_L0 (b, l) (a, ()) (l.length : Int) i) (fun i h => by
    rw [slices_IndexFunc_int_by_GoodTerm_1_L0_eq, gT (by omega), gT (by omega), gT (by simp only; omega), getD_at l _ i h, impl_GoodTerm_1_eq, some_bind, up1 i (by omega), bind_id]
    simp only [bne_comm]) (by rw [slices_IndexFunc_int_by_GoodTerm_1_L0_eq, gF (by omega)]))
theorem goodTerm_L0 (wide vars : Int) (t : Bool × List DNode) (ht : t.2.length ≤ 48) (hv : 0 ≤ vars ∧ vars ≤ 4) (d : Nat) : ∀ (i : Nat) (b : Bool) (st : List Int), i + d = t.2.length → st.length ≤ i →
    (kfold wide vars (t.2.drop i) st = none ∧ impl_GoodTerm_L0 wide vars (b, st) t (t.2.length : Int) (i : Int) = some (.inl false)) ∨ ∃ b' s, kfold wide vars (t.2.drop i) st = some s ∧ impl_GoodTerm_L0 wide vars (b, st) t (t.2.length : Int) (i : Int) = some (.inr (b', s)) := by
  induction d with
  | zero =>
    intro i b st hi hs
    rw [impl_GoodTerm_L0_eq, gF (by omega), List.drop_of_length_le (by omega)]
    exact .inr ⟨b, st, rfl, rfl⟩
  | succ d ih =>
    intro i b st hi hs
    have hlt : i < t.2.length := by omega
    obtain ⟨p1, p2, p3⟩ := needI_parts t.2[i].1
    have hlim : lim = 1099511627776 := rfl
    rw [impl_GoodTerm_L0_eq, gT (by omega), gT (by omega), gT (by omega), getD_at t.2 _ i hlt, operandsOf, some_bind, List.drop_eq_getElem_cons hlt, isLeafRight wide vars _ hv, p1, p2]
    simp only [kfold]
    obtain ⟨m, hm, hm2⟩ := need_two t.2[i].1
    rw [hm]
    by_cases h0 : (need t.2[i].1).2.2 = 0
    · rw [bT (by simp [h0])]; exact .inl ⟨by simp [kstep, h0], rfl⟩
    · rw [bF (by simp [h0]), some_bind]
      cases hl : leafOk wide vars t.2[i].1 t.2[i].2 with
      | false => exact .inl ⟨by simp [kstep, hl, h0], rfl⟩
      | true =>
        rw [bF (by simp)]
        by_cases hn : (st.length : Int) < (m : Int)
        · rw [wr (by omega), gT (by omega)]
          exact .inl ⟨by simp [kstep, hl, h0, hm, hn], rfl⟩
        · have e : IntKind.i64.wrap ((st.length : Int) - (m : Int)) = ((st.length - m : Nat) : Int) := by rw [wr (by omega)]; omega
          have ek : kstep wide vars st t.2[i] = if (st.drop (st.length - m)).all (fun y => y == (need t.2[i].1).2.1) = true then some (st.take (st.length - m) ++ [(need t.2[i].1).2.2]) else none := by
            unfold kstep
            rw [if_neg h0, if_pos hl, hm, if_neg hn, Int.toNat_natCast]
          have ea : (st.drop (st.length - m)).any (fun y => (needI t.2[i].1).2.1 != y) = !(st.drop (st.length - m)).all (fun y => y == (need t.2[i].1).2.1) := by
            rcases p3 with p3 | p3
            · have : m = 0 := by omega
              subst this
              simp
            · rw [p3, List.not_all_eq_any_not]
              congr 1
              funext y
              rw [bne, Bool.beq_comm]
          rw [e, gF (by omega), gT (by omega), gT (by omega), Int.toNat_natCast, List.take_length, contains_kind b (st.drop (st.length - m)) _ (by simp; omega), some_bind, ea, ek]
          cases ha : (st.drop (st.length - m)).all (fun y => y == (need t.2[i].1).2.1) with
          | false => exact .inl ⟨rfl, rfl⟩
          | true =>
            rw [bF (by simp), gT (by omega), gT (by omega), gT (by simp; omega), up1 i (by omega), bind_id, if_pos rfl, List.drop_zero]
            simp only [some_bind]
            exact ih (i + 1) _ _ (by omega) (by simp; omega)
theorem isVars_eq (n : Int) : impl_isVars n = some (decide (1 ≤ n ∧ n ≤ 4)) := by
  rw [impl_isVars_eq]
  by_cases h : n ≥ 1
  · rw [gT h]; congr 1; apply decide_eq_decide.mpr; omega
  · rw [gF h]; congr 1; symm; apply decide_eq_false; omega
theorem goodTerm (wide vars : Int) (t : Bool × List DNode) : impl_GoodTerm wide vars t = some (kindT wide vars t.2 != 0) := by
  rw [impl_GoodTerm_eq, isWide_eq, isVars_eq, some_bind, some_bind]
  by_cases h1 : 1 ≤ wide ∧ wide ≤ 64
  · by_cases h3 : 1 ≤ vars ∧ vars ≤ 4
    · by_cases h5 : (t.2.length : Int) < 1
      · rw [bF (by simp [h1]), bF (by simp [h3]), gT h5]
        unfold kindT; rw [if_neg (by omega)]; rfl
      · by_cases h6 : (t.2.length : Int) > 48
        · rw [bF (by simp [h1]), bF (by simp [h3]), gF h5, gT h6]
          unfold kindT; rw [if_neg (by omega)]; rfl
        · rw [bF (by simp [h1]), bF (by simp [h3]), gF h5, gF h6]
          have hc : 1 ≤ wide ∧ wide ≤ 64 ∧ 1 ≤ vars ∧ vars ≤ 4 ∧ 1 ≤ t.2.length ∧ t.2.length ≤ 48 := by omega
          have hne : t.2 ≠ [] := by intro h; rw [h] at h5; simp at h5
          rcases goodTerm_L0 wide vars t (by omega) (by omega) t.2.length 0 false [] (by omega) (by simp) with ⟨k1, k2⟩ | ⟨b, s, k1, k2⟩
          · rw [show ((0 : Nat) : Int) = 0 from rfl] at k2
            rw [k2, some_bind]
            rw [List.drop_zero] at k1
            unfold kindT
            rw [if_pos hc, k1]
            rfl
          · rw [show ((0 : Nat) : Int) = 0 from rfl] at k2
            rw [k2, some_bind]
            rw [List.drop_zero] at k1
            obtain ⟨⟨r', e⟩, hne0⟩ := kfold_last wide vars t.2 [] s k1 hne
            unfold kindT
            rw [if_pos hc, k1]
            match s, e with
            | [], e => rfl
            | [a], e =>
              have hr : r' = [] := by
                have := congrArg List.length e
                simp at this
                exact this
              subst hr
              simp at e
              rw [← e] at hne0
              simp [hne0]
            | a :: b :: c, e =>
              simp
              omega
    · rw [bF (by simp [h1]), bT (by simp; omega)]
      unfold kindT; rw [if_neg (by omega)]; rfl
  · rw [bT (by simp; omega)]
    unfold kindT; rw [if_neg (by omega)]; rfl
theorem isTermOf (wide vars kd : Int) (t : Bool × List DNode) (h0 : kd ≠ 0) : impl_isTermOf wide vars t kd = some (kindT wide vars t.2 == kd) := by
  rw [impl_isTermOf_eq, goodTerm, some_bind]
  by_cases hz : kindT wide vars t.2 = 0
  · rw [bF (by simp [hz]), hz]
    congr 1
    symm
    simp
    omega
  · have hne : t.2 ≠ [] := by
      intro h
      rw [h] at hz
      exact hz (by simp [kindT])
    have hin := kindT_in hz
    rw [bT (by simp [hz]), impl_kindOf_eq, dn1 _ (by omega) (by omega), gT (by omega), gT (by omega), getD_at _ _ _ (by omega), operandsOf, some_bind, some_bind]
    rw [(needI_parts _).2.1, (kindT_last hz hne).2, List.getLast_eq_getElem]
/-- terms of words -/
def WfN (t : List DNode) : Prop := ∀ x ∈ t, U64 x.2
def WfCh (c : DChange) : Prop := WfN c.2.2
def WfCm (c : DCommand) : Prop := WfN c.1.2 ∧ ∀ d ∈ c.2.2, WfCh d
def WfP (p : DProgram) : Prop := WfN p.2.2.1.2 ∧ ∀ c ∈ p.2.2.2.2, WfCm c
theorem WfD_nodes {a : Bool × List DNode} (w : WfD (.sl tyNode) a) : WfN a.2 := fun x hx => WfD_u64 (w.2.2 x hx).2
theorem WfD_prog {p : DProgram} (w : WfD tyProgram p) : WfP p := by
  obtain ⟨_, _, h1, h2⟩ := w
  refine ⟨WfD_nodes h1, fun c hc => ?_⟩
  obtain ⟨h3, h4⟩ := h2.2.2 c hc
  exact ⟨WfD_nodes h3, fun d hd => WfD_nodes (h4.2.2 d hd).2⟩
theorem WfP_cp {p : DProgram} (w : WfP p) : WfP (cpProgram p) := by
  refine ⟨w.1, fun c hc => ?_⟩
  obtain ⟨c0, h1, rfl⟩ := List.mem_map.1 hc
  obtain ⟨q1, q2⟩ := w.2 c0 h1
  refine ⟨q1, fun d hd => ?_⟩
  obtain ⟨d0, h2, rfl⟩ := List.mem_map.1 hd
  exact q2 d0 h2
/-- Are changes right, the variable before them being p? -/
def chgOk (wide vars : Int) : Int → List DChange → Bool
  | _, [] => true
  | p, c :: cs => decide (p < c.1) && decide (c.1 < vars) && (kindT wide vars c.2.2 == 1) && chgOk wide vars c.1 cs
theorem chgOk_len (wide vars : Int) : ∀ (l : List DChange) (p : Int), p < vars → chgOk wide vars p l = true → p + (l.length : Int) < vars := by
  intro l
  induction l with
  | nil => intro p h _; simpa using h
  | cons c cs ih =>
    intro p h hc
    simp only [chgOk, Bool.and_eq_true, decide_eq_true_eq] at hc
    have := ih c.1 hc.1.1.2 hc.2
    simp only [List.length_cons]
    omega
def cmdOk (wide vars : Int) (c : DCommand) : Bool := (kindT wide vars c.1.2 == 2) && chgOk wide vars (-1) c.2.2
/-- The variable of the change before. -/
def before (l : List DChange) (i : Nat) : Int := if i = 0 then -1 else (l.getD (i - 1) (0, (true, []))).1
theorem before_succ (l : List DChange) (i : Nat) (h : i < l.length) : before l (i + 1) = l[i].1 := by
  simp [before, h]
theorem l7Command_L0 (p : DProgram) (c : DCommand) (hl : c.2.2.length ≤ 1048576) (hv : 1 ≤ p.2.1 ∧ p.2.1 ≤ 4) (hw : ∀ d ∈ c.2.2, WfCh d) (d : Nat) : ∀ (i : Nat), i + d = c.2.2.length → -1 ≤ before c.2.2 i →
    spec_l7Command_L0 p c c.2 (c.2.2.length : Int) (i : Int) = some (bif chgOk p.1 p.2.1 (before c.2.2 i) (c.2.2.drop i) then .inr () else .inl false) := by
  induction d with
  | zero =>
    intro i hi hb0
    rw [spec_l7Command_L0_eq, gF (by omega), List.drop_of_length_le (by omega)]
    rfl
  | succ d ih =>
    intro i hi hb0
    have hlt : i < c.2.2.length := by omega
    have hx := hw _ (List.getElem_mem hlt)
    have go := ih (i + 1) (by omega)
    rw [before_succ _ i hlt] at go
    rw [List.drop_eq_getElem_cons hlt, spec_l7Command_L0_eq, gT (by omega), gT (by omega), gT (by omega), getD_at _ _ i hlt, l1In_eq, some_bind, wr (by omega), up1 i (by omega), bind_id, l2Kind p.1 p.2.1 _ hx, some_bind]
    simp only [chgOk]
    by_cases h1 : 0 ≤ c.2.2[i].1 ∧ c.2.2[i].1 ≤ p.2.1 - 1
    · rw [bF (by simp [h1]), go (by omega)]
      have h3 : decide (c.2.2[i].1 < p.2.1) = true := by simp; omega
      rw [h3]
      by_cases hi0 : i = 0
      · subst hi0
        have hb : decide (before c.2.2 0 < c.2.2[0].1) = true := by simp [before]; omega
        rw [gF (by omega), hb]
        by_cases hk1 : kindT p.1 p.2.1 c.2.2[0].2.2 = 1
        · rw [bF (by simp [hk1])]; simp [hk1]
        · rw [bT (by simp [hk1])]; simp [beqF hk1]
      · have hb : before c.2.2 i = c.2.2[i - 1].1 := by
          simp only [before, if_neg hi0]
          rw [List.getD_eq_getElem?_getD]
          simp [show i - 1 < c.2.2.length by omega]
        rw [gT (by omega), dn1 i (by omega) (by omega), gT (by omega), gT (by omega), getD_at _ _ (i - 1) (by omega), hb]
        by_cases h4 : c.2.2[i - 1].1 ≥ c.2.2[i].1
        · have : decide (c.2.2[i - 1].1 < c.2.2[i].1) = false := by simp; omega
          rw [gT h4, this]; rfl
        · have : decide (c.2.2[i - 1].1 < c.2.2[i].1) = true := by simp; omega
          rw [gF h4, this]
          by_cases hk1 : kindT p.1 p.2.1 c.2.2[i].2.2 = 1
          · rw [bF (by simp [hk1])]; simp [hk1]
          · rw [bT (by simp [hk1])]; simp [beqF hk1]
    · rw [bT (by simp; omega)]
      have : (decide (before c.2.2 i < c.2.2[i].1) && decide (c.2.2[i].1 < p.2.1)) = false := by
        rw [← Bool.not_eq_true]
        simp
        omega
      rw [this]; rfl
theorem l7Asks (p : DProgram) (t : Bool × List DNode) (h : WfN t.2) : spec_l7Asks p t = some (kindT p.1 p.2.1 t.2 == 2) := by
  rw [spec_l7Asks_eq, l2Kind p.1 p.2.1 t h, some_bind]
theorem isCondition (p : DProgram) (t : Bool × List DNode) : impl_Program_isCondition p t = some (kindT p.1 p.2.1 t.2 == 2) := by
  rw [impl_Program_isCondition_eq, isTermOf _ _ _ _ (by omega), bind_id]
theorem l7Command (p : DProgram) (c : DCommand) (hl : c.2.2.length ≤ 1048576) (h : WfCm c) : spec_l7Command p c = some (cmdOk p.1 p.2.1 c) := by
  rw [spec_l7Command_eq, l7Asks p _ h.1, some_bind]
  unfold cmdOk
  by_cases h2 : kindT p.1 p.2.1 c.1.2 = 2
  · have hv := kindT_in (by rw [h2]; omega : kindT p.1 p.2.1 c.1.2 ≠ 0)
    rw [bF (by simp [h2]), h2]
    by_cases hn : (c.2.2.length : Int) > p.2.1
    · have : chgOk p.1 p.2.1 (-1) c.2.2 = false := by
        cases hc : chgOk p.1 p.2.1 (-1) c.2.2 with
        | false => rfl
        | true =>
          have := chgOk_len p.1 p.2.1 c.2.2 (-1) (by omega) hc
          omega
      rw [gT hn, this]; rfl
    · have := l7Command_L0 p c hl (by omega) h.2 c.2.2.length 0 (by omega) (by simp [before])
      rw [show ((0 : Nat) : Int) = 0 from rfl, List.drop_zero] at this
      rw [gF hn, this, some_bind]
      simp only [before, if_true]
      cases chgOk p.1 p.2.1 (-1) c.2.2 <;> rfl
  · rw [bT (by simp [h2]), beqF h2]; rfl
theorem isCommand_L0 (p : DProgram) (c : DCommand) (hl : c.2.2.length ≤ 1048576) (d : Nat) : ∀ (i : Nat), i + d = c.2.2.length → -1 ≤ before c.2.2 i →
    impl_Program_isCommand_L0 p c c.2 (c.2.2.length : Int) (i : Int) = some (bif chgOk p.1 p.2.1 (before c.2.2 i) (c.2.2.drop i) then .inr () else .inl false) := by
  induction d with
  | zero =>
    intro i hi hb0
    rw [impl_Program_isCommand_L0_eq, gF (by omega), List.drop_of_length_le (by omega)]
    rfl
  | succ d ih =>
    intro i hi hb0
    have hlt : i < c.2.2.length := by omega
    have go := ih (i + 1) (by omega)
    rw [before_succ _ i hlt] at go
    rw [List.drop_eq_getElem_cons hlt, impl_Program_isCommand_L0_eq, gT (by omega), gT (by omega), gT (by omega), getD_at _ _ i hlt, up1 i (by omega), bind_id, isTermOf _ _ _ _ (by omega), some_bind]
    simp only [chgOk]
    by_cases h1 : c.2.2[i].1 < 0
    · have : decide (before c.2.2 i < c.2.2[i].1) = false := by simp; omega
      rw [gT h1, this]; rfl
    · rw [gF h1, go (by omega)]
      by_cases h2 : c.2.2[i].1 ≥ p.2.1
      · have : decide (c.2.2[i].1 < p.2.1) = false := by simp; omega
        rw [gT h2, this, Bool.and_false]; rfl
      · have h3 : decide (c.2.2[i].1 < p.2.1) = true := by simp; omega
        rw [gF h2, h3]
        by_cases hi0 : i = 0
        · subst hi0
          have hb : decide (before c.2.2 0 < c.2.2[0].1) = true := by simp [before]; omega
          rw [gF (by omega), hb]
          by_cases hk1 : kindT p.1 p.2.1 c.2.2[0].2.2 = 1
          · rw [bF (by simp [hk1])]; simp [hk1]
          · rw [bT (by simp [hk1])]; simp [beqF hk1]
        · have hb : before c.2.2 i = c.2.2[i - 1].1 := by
            simp only [before, if_neg hi0]
            rw [List.getD_eq_getElem?_getD]
            simp [show i - 1 < c.2.2.length by omega]
          rw [gT (by omega), dn1 i (by omega) (by omega), gT (by omega), gT (by omega), getD_at _ _ (i - 1) (by omega), hb]
          by_cases h4 : c.2.2[i - 1].1 ≥ c.2.2[i].1
          · have : decide (c.2.2[i - 1].1 < c.2.2[i].1) = false := by simp; omega
            rw [gT h4, this]; rfl
          · have : decide (c.2.2[i - 1].1 < c.2.2[i].1) = true := by simp; omega
            rw [gF h4, this]
            by_cases hk1 : kindT p.1 p.2.1 c.2.2[i].2.2 = 1
            · rw [bF (by simp [hk1])]; simp [hk1]
            · rw [bT (by simp [hk1])]; simp [beqF hk1]
theorem isCommand (p : DProgram) (c : DCommand) (hl : c.2.2.length ≤ 1048576) : impl_Program_isCommand p c = some (cmdOk p.1 p.2.1 c) := by
  rw [impl_Program_isCommand_eq, isCondition, some_bind]
  unfold cmdOk
  by_cases h2 : kindT p.1 p.2.1 c.1.2 = 2
  · rw [bF (by simp [h2]), h2]
    have := isCommand_L0 p c hl c.2.2.length 0 (by omega) (by simp [before])
    rw [show ((0 : Nat) : Int) = 0 from rfl, List.drop_zero] at this
    rw [this, some_bind]
    simp only [before, if_true]
    cases chgOk p.1 p.2.1 (-1) c.2.2 <;> rfl
  · rw [bT (by simp [h2]), beqF h2]; rfl
def goodProgram (p : DProgram) : Bool := (kindT p.1 p.2.1 p.2.2.1.2 == 2) && (decide (1 ≤ p.2.2.2.2.length ∧ p.2.2.2.2.length ≤ 6) && p.2.2.2.2.all fun c => cmdOk p.1 p.2.1 c)
theorem goodProgram_in {p : DProgram} (h : goodProgram p = true) : 1 ≤ p.1 ∧ p.1 ≤ 64 ∧ 1 ≤ p.2.1 ∧ p.2.1 ≤ 4 := by
  simp only [goodProgram, Bool.and_eq_true, beq_iff_eq] at h
  have := kindT_in (t := p.2.2.1.2) (by rw [h.1]; decide)
  omega
theorem spec_goodProgram (p : DProgram) (hs : SmProgram p) (hw : WfP p) : spec_GoodProgram p = some (goodProgram p) := by
  obtain ⟨_, s2, s3⟩ := hs
  have := loop_all p.2.2.2.2 (fun c => cmdOk p.1 p.2.1 c) (.inr () : Bool ⊕ Unit) (.inl false) (fun i => spec_GoodProgram_L0 p p.2.2.2 (p.2.2.2.2.length : Int) i) (fun i h => by
    rw [spec_GoodProgram_L0_eq, gT (by omega), gT (by omega), gT (by omega), getD_at _ _ i h, l7Command p _ (s3 _ (List.getElem_mem h)).2.1 (hw.2 _ (List.getElem_mem h)), some_bind, up1 i (by omega), bind_id]
    cases cmdOk p.1 p.2.1 p.2.2.2.2[i] <;> rfl) (by
    rw [spec_GoodProgram_L0_eq, gF (by omega)])
  rw [spec_GoodProgram_eq, l7Asks p _ hw.1, some_bind, l1In_eq, some_bind, this]
  unfold goodProgram
  by_cases h2 : kindT p.1 p.2.1 p.2.2.1.2 = 2
  · by_cases h5 : 1 ≤ p.2.2.2.2.length ∧ p.2.2.2.2.length ≤ 6
    · rw [bF (by simp [h2]), bF (by simp; omega), h2]
      simp only [h5, and_self, decide_true, some_bind]
      cases p.2.2.2.2.all fun c => cmdOk p.1 p.2.1 c <;> rfl
    · rw [bF (by simp [h2]), bT (by simp; omega)]
      simp [h5]
  · rw [bT (by simp [h2]), beqF h2]; rfl
theorem contains_command (p : DProgram) (hs : SmProgram p) : slices_ContainsFunc_Command_by_GoodProgram_1 p.2.2.2 (p, ()) = some (p.2.2.2.2.any fun c => !cmdOk p.1 p.2.1 c) := by
  obtain ⟨_, s2, s3⟩ := hs
  rw [slices_ContainsFunc_Command_by_GoodProgram_1_eq, slices_IndexFunc_Command_by_GoodProgram_1_eq]
  exact contains_of (loop_find p.2.2.2.2 (fun c => !cmdOk p.1 p.2.1 c) (fun i => slices_IndexFunc_Command_by_GoodProgram_1_L0 p.2.2.2 (p, ()) (p.2.2.2.2.length : Int) i) (fun i h => by
    rw [slices_IndexFunc_Command_by_GoodProgram_1_L0_eq, gT (by omega), gT (by omega), gT (by omega), getD_at _ _ i h, impl_GoodProgram_1_eq, isCommand p _ (s3 _ (List.getElem_mem h)).2.1, some_bind, some_bind, up1 i (by omega), bind_id]) (by rw [slices_IndexFunc_Command_by_GoodProgram_1_L0_eq, gF (by omega)]))
theorem impl_goodProgram (p : DProgram) (hs : SmProgram p) : impl_GoodProgram p = some (goodProgram p) := by
  rw [impl_GoodProgram_eq, isWide_eq, some_bind, isVars_eq, some_bind, isCondition, some_bind, contains_command p hs, some_bind]
  unfold goodProgram
  by_cases h2 : kindT p.1 p.2.1 p.2.2.1.2 = 2
  · have hin := kindT_in (t := p.2.2.1.2) (by rw [h2]; decide)
    rw [bF (by simp; omega), bF (by simp; omega), bF (by simp [h2]), h2]
    by_cases h3 : (p.2.2.2.2.length : Int) < 1
    · have h5 : ¬ (1 ≤ p.2.2.2.2.length ∧ p.2.2.2.2.length ≤ 6) := by omega
      rw [gT h3]
      simp [h5]
    · by_cases h4 : (p.2.2.2.2.length : Int) > 6
      · have h5 : ¬ (1 ≤ p.2.2.2.2.length ∧ p.2.2.2.2.length ≤ 6) := by omega
        rw [gF h3, gT h4]
        simp [h5]
      · have h5 : 1 ≤ p.2.2.2.2.length ∧ p.2.2.2.2.length ≤ 6 := by omega
        rw [gF h3, gF h4]
        simp [h5, List.not_any_eq_all_not]
  · rw [beqF h2]
    by_cases a1 : 1 ≤ p.1 ∧ p.1 ≤ 64
    · by_cases a2 : 1 ≤ p.2.1 ∧ p.2.1 ≤ 4
      · rw [bF (by simp; omega), bF (by simp; omega), bT (by simp)]; rfl
      · rw [bF (by simp; omega), bT (by simp; omega)]; rfl
    · rw [bT (by simp; omega)]; rfl
theorem chgOk_in (wide vars : Int) : ∀ (l : List DChange) (p : Int), chgOk wide vars p l = true → ∀ d ∈ l, p < d.1 ∧ d.1 < vars ∧ kindT wide vars d.2.2 = 1 := by
  intro l
  induction l with
  | nil => intro p _ d hd; simp at hd
  | cons c cs ih =>
    intro p h d hd
    simp only [chgOk, Bool.and_eq_true, decide_eq_true_eq, beq_iff_eq] at h
    rcases List.mem_cons.1 hd with rfl | hd
    · exact ⟨h.1.1.1, h.1.1.2, h.1.2⟩
    · have := ih c.1 h.2 d hd
      exact ⟨by omega, this.2⟩
theorem cmd_in {p : DProgram} (h : goodProgram p = true) : ∀ c ∈ p.2.2.2.2, kindT p.1 p.2.1 c.1.2 = 2 ∧ ∀ d ∈ c.2.2, 0 ≤ d.1 ∧ d.1 < p.2.1 ∧ kindT p.1 p.2.1 d.2.2 = 1 := by
  intro c hc
  simp only [goodProgram, Bool.and_eq_true] at h
  have := (List.all_eq_true.1 h.2.2) c hc
  simp only [cmdOk, Bool.and_eq_true, beq_iff_eq] at this
  refine ⟨this.1, fun d hd => ?_⟩
  have := chgOk_in _ _ _ _ this.2 d hd
  exact ⟨by omega, this.2⟩
def isSmall (p : DProgram) : Bool := goodProgram p && decide (p.1 * p.2.1 ≤ 5)
theorem mul_in {a b : Int} (ha : 1 ≤ a ∧ a ≤ 64) (hb : 1 ≤ b ∧ b ≤ 4) : 1 ≤ a * b ∧ a * b ≤ 256 := by
  have h1 : 1 * 1 ≤ a * b := Int.mul_le_mul ha.1 hb.1 (by omega) (by omega)
  have h2 : a * b ≤ 64 * 4 := Int.mul_le_mul ha.2 hb.2 (by omega) (by omega)
  omega
theorem small_l7 (p : DProgram) (hs : SmProgram p) (hw : WfP p) : spec_l7Small p = some (isSmall p) := by
  rw [spec_l7Small_eq, spec_goodProgram p hs hw, some_bind]
  unfold isSmall
  cases h : goodProgram p with
  | false => rfl
  | true =>
    obtain ⟨a1, a2, a3, a4⟩ := goodProgram_in h
    have := mul_in ⟨a1, a2⟩ ⟨a3, a4⟩
    rw [wr (by omega)]
    rfl
theorem small_impl (p : DProgram) (hs : SmProgram p) : impl_isSmall p = some (isSmall p) := by
  rw [impl_isSmall_eq, impl_goodProgram p hs, some_bind]
  unfold isSmall
  cases h : goodProgram p with
  | false => rfl
  | true =>
    obtain ⟨a1, a2, a3, a4⟩ := goodProgram_in h
    have := mul_in ⟨a1, a2⟩ ⟨a3, a4⟩
    rw [wr (by omega)]
    rfl
/-- what is known of a small program -/
theorem isSmall_in {p : DProgram} (h : isSmall p = true) : goodProgram p = true ∧ 1 ≤ p.1 ∧ p.1 ≤ 5 ∧ 1 ≤ p.2.1 ∧ p.2.1 ≤ 4 ∧ p.1 * p.2.1 ≤ 5 ∧ 1 ≤ p.1 * p.2.1 := by
  simp only [isSmall, Bool.and_eq_true, decide_eq_true_eq] at h
  obtain ⟨a1, a2, a3, a4⟩ := goodProgram_in h.1
  have h1 := mul_in ⟨a1, a2⟩ ⟨a3, a4⟩
  have h2 : p.1 * 1 ≤ p.1 * p.2.1 := Int.mul_le_mul_of_nonneg_left a3 (by omega)
  exact ⟨h.1, a1, by omega, a3, a4, h.2, h1.1⟩
theorem bShr_eq (k : IntKind) (x : Int) (n : Nat) (h : n ≤ k.bits) : bShr k x (n : Int) = x / 2 ^ n := by
  unfold bShr
  rw [show min ((n : Int)).toNat k.bits = n by simp only [Int.toNat_natCast]; omega, Int.fdiv_eq_ediv_of_nonneg _ (Int.le_of_lt (Int.pow_pos (by decide)))]
theorem xor_all (a : Nat) (h : a < 2 ^ 64) : bXor .u64 18446744073709551615 (a : Int) = ((18446744073709551615 - a : Nat) : Int) := by
  have e : (BitVec.ofInt 64 18446744073709551615 ^^^ BitVec.ofInt 64 (a : Int)).toNat = 18446744073709551615 - a := by
    rw [show BitVec.ofInt 64 18446744073709551615 = BitVec.allOnes 64 by decide, BitVec.allOnes_xor, BitVec.toNat_not, BitVec.ofInt_natCast, BitVec.toNat_ofNat, Nat.mod_eq_of_lt h]
  show IntKind.u64.wrap (((BitVec.ofInt 64 18446744073709551615 ^^^ BitVec.ofInt 64 (a : Int)).toNat : Nat) : Int) = _
  rw [e]
  exact wru ⟨by omega, by omega⟩
theorem cut_mod {wide a : Int} (hw : 1 ≤ wide ∧ wide ≤ 64) (ha : U64 a) : spec_l1Cut wide a = some (a % (top wide + 1)) := by
  obtain ⟨n, rfl⟩ := Int.eq_ofNat_of_zero_le (show 0 ≤ wide by omega)
  obtain ⟨m, rfl⟩ := Int.eq_ofNat_of_zero_le ha.1
  have hm : m < 2 ^ 64 := by have := ha.2; simp; omega
  have e : ((2 : Int) ^ n) = ((2 ^ n : Nat) : Int) := by simp
  rw [cut_nat n m (by omega) hm, show min n 64 = n by omega]
  simp only [top, Int.toNat_natCast, e]
  rw [show ((2 ^ n : Nat) : Int) - 1 + 1 = ((2 ^ n : Nat) : Int) by omega]
  rfl
theorem and_top {wide a : Int} (hw : 1 ≤ wide ∧ wide ≤ 64) (ha : U64 a) : bAnd .u64 a (top wide) = a % (top wide + 1) := by
  obtain ⟨n, rfl⟩ := Int.eq_ofNat_of_zero_le (show 0 ≤ wide by omega)
  obtain ⟨m, rfl⟩ := Int.eq_ofNat_of_zero_le ha.1
  have e : ((2 : Int) ^ n) = ((2 ^ n : Nat) : Int) := by simp
  have hm : m < 2 ^ 64 := by have := ha.2; simp; omega
  have hp := pow_le64 (n := n) (by omega)
  have h0 : 0 < (2 : Nat) ^ n := Nat.two_pow_pos _
  have e2 : top ((n : Nat) : Int) = ((2 ^ n - 1 : Nat) : Int) := by
    simp only [top, Int.toNat_natCast, e]
    omega
  have e3 : top ((n : Nat) : Int) + 1 = ((2 ^ n : Nat) : Int) := by rw [e2]; omega
  rw [e3, e2, bAnd_eq m (2 ^ n - 1) hm (by simp; omega), Nat.and_two_pow_sub_one_eq_mod]
  rfl
/-- The cut of a complement. -/
theorem cut_not {wide a : Int} (hw : 1 ≤ wide ∧ wide ≤ 64) (h0 : 0 ≤ a) (h1 : a ≤ top wide) : U64 (bXor .u64 18446744073709551615 a) ∧ bXor .u64 18446744073709551615 a % (top wide + 1) = top wide - a := by
  obtain ⟨n, rfl⟩ := Int.eq_ofNat_of_zero_le (show 0 ≤ wide by omega)
  obtain ⟨m, rfl⟩ := Int.eq_ofNat_of_zero_le h0
  have e : ((2 : Int) ^ n) = ((2 ^ n : Nat) : Int) := by simp
  simp only [top, Int.toNat_natCast, e] at h1 ⊢
  have h2 := pow_le64 (n := n) (by omega)
  have hm : m < 2 ^ 64 := by simp; omega
  rw [xor_all m hm]
  refine ⟨⟨by omega, by omega⟩, ?_⟩
  have hp : (2 : Nat) ^ n * 2 ^ (64 - n) = 18446744073709551616 := by rw [← Nat.pow_add, show n + (64 - n) = 64 by omega]
  have hq : 0 < (2 : Nat) ^ (64 - n) := Nat.two_pow_pos _
  have h3 : 18446744073709551615 - m = (2 ^ n - 1 - m) + 2 ^ n * (2 ^ (64 - n) - 1) := by
    rw [Nat.mul_sub, hp, Nat.mul_one]
    omega
  rw [h3, show ((2 ^ n : Nat) : Int) - 1 + 1 = ((2 ^ n : Nat) : Int) by omega, ← Int.natCast_emod, Nat.add_mul_mod_self_left, Nat.mod_eq_of_lt (by omega)]
  omega
theorem cut_all {wide : Int} (hw : 1 ≤ wide ∧ wide ≤ 64) : spec_l1Cut wide 18446744073709551615 = some (top wide) := by
  have ht := top_in hw
  have h := (cut_not hw (Int.le_refl 0) (by omega)).2
  rw [show (0 : Int) = ((0 : Nat) : Int) from rfl, xor_all 0 (by decide)] at h
  rw [cut_mod hw ⟨by omega, by omega⟩]
  congr 1
  simpa using h
/-- Words of a width. -/
def W5 (wide a : Int) : Prop := 0 ≤ a ∧ a ≤ top wide
theorem bits_in {wide a b : Int} (hw : 1 ≤ wide ∧ wide ≤ 64) (ha : W5 wide a) (hb : W5 wide b) :
    W5 wide (bAnd .u64 a b) ∧ W5 wide (bOr .u64 a b) ∧ W5 wide (bXor .u64 a b) := by
  obtain ⟨n, rfl⟩ := Int.eq_ofNat_of_zero_le (show 0 ≤ wide by omega)
  obtain ⟨ha0, ha1⟩ := ha
  obtain ⟨hb0, hb1⟩ := hb
  obtain ⟨x, rfl⟩ := Int.eq_ofNat_of_zero_le ha0
  obtain ⟨y, rfl⟩ := Int.eq_ofNat_of_zero_le hb0
  have e : ((2 : Int) ^ n) = ((2 ^ n : Nat) : Int) := by simp
  have hp := pow_le64 (n := n) (by omega)
  simp only [top, Int.toNat_natCast, e] at ha1 hb1
  have h0 : 0 < (2 : Nat) ^ n := Nat.two_pow_pos _
  have hx : x < 2 ^ n := by omega
  have hy : y < 2 ^ n := by omega
  have h64 : (2 : Nat) ^ n ≤ 2 ^ 64 := Nat.pow_le_pow_right (by decide) (by omega)
  have f1 := Nat.and_lt_two_pow x hy
  have f2 := Nat.or_lt_two_pow hx hy
  have f3 := Nat.xor_lt_two_pow hx hy
  rw [bAnd_eq x y (Nat.lt_of_lt_of_le hx h64) (Nat.lt_of_lt_of_le hy h64), bOr_eq x y (Nat.lt_of_lt_of_le hx h64) (Nat.lt_of_lt_of_le hy h64), bXor_eq x y (Nat.lt_of_lt_of_le hx h64) (Nat.lt_of_lt_of_le hy h64)]
  simp only [W5, top, Int.toNat_natCast, e]
  omega
theorem top_pow {n : Nat} : top (n : Int) + 1 = ((2 ^ n : Nat) : Int) := by
  have e : ((2 : Int) ^ n) = ((2 ^ n : Nat) : Int) := by simp
  simp only [top, Int.toNat_natCast, e]
  omega
theorem W5.u64 {wide a : Int} (hw : 1 ≤ wide ∧ wide ≤ 64) (h : W5 wide a) : U64 a := ⟨h.1, by have := h.2; have := top_in hw; omega⟩
theorem mask_word {wide a : Int} (hw : 1 ≤ wide ∧ wide ≤ 64) (h : W5 wide a) : bAnd .u64 a (top wide) = a := by
  rw [and_top hw (h.u64 hw), Int.emod_eq_of_lt h.1 (by have := h.2; omega)]
theorem word_good {wide a : Int} (hw : 1 ≤ wide ∧ wide ≤ 64) (h : W5 wide a) : goodWord wide a = true := by
  rw [goodWord_iff]
  exact ⟨hw.1, hw.2, h.2⟩
theorem mod_word {wide q : Int} (hw : 1 ≤ wide ∧ wide ≤ 64) : W5 wide (q % (top wide + 1)) := by
  have ht := top_in hw
  exact ⟨Int.emod_nonneg _ (by omega), by have := Int.emod_lt_of_pos q (show 0 < top wide + 1 by omega); omega⟩
theorem wrapU (n : Int) : U64 (IntKind.u64.wrap n) := by
  rw [wru_mod]
  exact ⟨Int.emod_nonneg _ (by decide), Int.emod_lt_of_pos _ (by decide)⟩
theorem l1Shift_right (wide : Int) (n : Nat) : ∀ (x : Int), n < 1000 → spec_l1Shift_L0 wide x (n : Int) false = some (x / 2 ^ n) := by
  induction n with
  | zero =>
    intro x _
    rw [spec_l1Shift_L0_eq, gF (by omega)]
    simp
  | succ n ih =>
    intro x h
    rw [spec_l1Shift_L0_eq, gT (by omega), cond_false, wru (by omega), show ((n + 1 : Nat) : Int) - 1 = (n : Int) by omega, show (1 : Int) = ((1 : Nat) : Int) from rfl, bShr_eq .u64 x 1 (by decide), ih _ (by omega), some_bind]
    congr 1
    rw [Int.ediv_ediv_of_nonneg (by decide), Int.pow_succ, Int.mul_comm]
    rfl
theorem l1Shift_left (wide : Int) (hw : 1 ≤ wide ∧ wide ≤ 63) (n : Nat) : ∀ (x : Int), n < 1000 → 0 ≤ x → x ≤ top wide → spec_l1Shift_L0 wide x (n : Int) true = some (x * 2 ^ n % (top wide + 1)) := by
  obtain ⟨w, rfl⟩ := Int.eq_ofNat_of_zero_le (show 0 ≤ wide by omega)
  have hM := top_pow (n := w)
  have hlt : (2 : Nat) ^ w ≤ 2 ^ 63 := Nat.pow_le_pow_right (by decide) (by omega)
  have hpos : 0 < (2 : Nat) ^ w := Nat.two_pow_pos _
  simp at hlt
  induction n with
  | zero =>
    intro x _ h0 h1
    rw [spec_l1Shift_L0_eq, gF (by omega), show x * 2 ^ 0 = x by simp, Int.emod_eq_of_lt h0 (by omega)]
  | succ n ih =>
    intro x h h0 h1
    have e : bShl .u64 x 1 = x * 2 := by
      unfold bShl
      rw [show min (Int.toNat 1) IntKind.u64.bits = 1 by decide, wru (by omega)]
      omega
    rw [spec_l1Shift_L0_eq, gT (by omega), cond_true, e, cut_mod (by omega) ⟨by omega, by omega⟩, some_bind]
    have hm := Int.emod_nonneg (x * 2) (show top (w : Int) + 1 ≠ 0 by omega)
    have hm2 := Int.emod_lt_of_pos (x * 2) (show 0 < top (w : Int) + 1 by omega)
    rw [wru (by omega), show ((n + 1 : Nat) : Int) - 1 = (n : Int) by omega, ih _ (by omega) hm (by omega), some_bind]
    congr 1
    rw [Int.mul_emod, Int.emod_emod_of_dvd _ (Int.dvd_refl _), ← Int.mul_emod, Int.pow_succ, Int.mul_assoc, Int.mul_comm 2]
theorem shift_both (wide : Int) (hw : 1 ≤ wide ∧ wide ≤ 63) (a b : Int) (ha : W5 wide a) (hb : U64 b) (left : Bool) : ∃ r, W5 wide r ∧ spec_l1Shift wide a b left = some r ∧ ∃ q, impl_shift wide a b left = some q ∧ U64 q ∧ bAnd .u64 q (top wide) = r := by
  obtain ⟨a0, a1⟩ := ha
  obtain ⟨b0, b1⟩ := hb
  have ht := top_in (wide := wide) (by omega)
  have hz : bAnd .u64 0 (top wide) = 0 := by rw [and_top (by omega) ⟨by omega, by omega⟩]; simp
  rw [spec_l1Shift_eq, impl_shift_eq, wru (by omega)]
  by_cases hge : b ≥ wide
  · exact ⟨0, ⟨by omega, by omega⟩, by rw [gT hge], 0, by rw [gT hge], ⟨by omega, by omega⟩, hz⟩
  · rw [gF hge, gF hge, gF (by omega), gF (by omega), bind_id]
    obtain ⟨n, rfl⟩ := Int.eq_ofNat_of_zero_le b0
    obtain ⟨w, rfl⟩ := Int.eq_ofNat_of_zero_le (show 0 ≤ wide by omega)
    have hM := top_pow (n := w)
    have hpos : 0 < (2 : Nat) ^ w := Nat.two_pow_pos _
    have hn64 : min ((n : Int)).toNat (IntKind.u64.bits) = n := by simp only [Int.toNat_natCast, IntKind.bits]; omega
    cases left with
    | true =>
      have hm := Int.emod_nonneg (a * 2 ^ n) (show top (w : Int) + 1 ≠ 0 by omega)
      have hm2 := Int.emod_lt_of_pos (a * 2 ^ n) (show 0 < top (w : Int) + 1 by omega)
      have hq : U64 (bShl .u64 a (n : Int)) := by
        unfold bShl
        exact wrapU _
      have e1 := and_top (wide := (w : Int)) (by omega) hq
      have e2 : bShl .u64 a (n : Int) % (top (w : Int) + 1) = a * 2 ^ n % (top (w : Int) + 1) := by
        unfold bShl
        rw [hn64, wru_mod, hM]
        have : (18446744073709551616 : Int) = ((2 ^ w : Nat) : Int) * ((2 ^ (64 - w) : Nat) : Int) := by
          rw [← Int.natCast_mul, ← Nat.pow_add, show w + (64 - w) = 64 by omega]
          decide
        rw [this, Int.emod_emod_of_dvd _ (Int.dvd_mul_right _ _)]
      refine ⟨a * 2 ^ n % (top (w : Int) + 1), ⟨hm, by omega⟩, l1Shift_left (w : Int) (by omega) n a (by omega) a0 a1, bAnd .u64 (bShl .u64 a (n : Int)) (top (w : Int)), ?_, ?_, ?_⟩
      · rw [cond_true, mask_top (w : Int) (by omega), some_bind]
      · rw [e1, e2]
        exact ⟨hm, by omega⟩
      · rw [e1, e2, and_top (by omega) ⟨hm, by omega⟩, Int.emod_emod_of_dvd _ (Int.dvd_refl _)]
    | false =>
      have hp : (0 : Int) < 2 ^ n := Int.pow_pos (by decide)
      have h1 : 0 ≤ a / 2 ^ n := Int.ediv_nonneg a0 (by omega)
      have h2 : a / 2 ^ n ≤ a := Int.ediv_le_self _ a0
      refine ⟨a / 2 ^ n, ⟨h1, by omega⟩, l1Shift_right (w : Int) n a (by omega), a / 2 ^ n, ?_, ⟨h1, by omega⟩, ?_⟩
      · rw [cond_false, bShr_eq .u64 a n (by simp only [IntKind.bits]; omega)]
      · rw [and_top (by omega) ⟨h1, by omega⟩, Int.emod_eq_of_lt h1 (by omega)]
theorem top_one : top 1 = 1 := by decide
theorem or_comm64 (a b : Int) (ha : U64 a) (hb : U64 b) : bOr .u64 a b = bOr .u64 b a := by
  obtain ⟨x, rfl⟩ := Int.eq_ofNat_of_zero_le ha.1
  obtain ⟨y, rfl⟩ := Int.eq_ofNat_of_zero_le hb.1
  have hx : x < 2 ^ 64 := by have := ha.2; simp; omega
  have hy : y < 2 ^ 64 := by have := hb.2; simp; omega
  rw [bOr_eq x y hx hy, bOr_eq y x hy hx, Nat.or_comm]
theorem wr_mod (n : Int) : IntKind.i64.wrap n = (n + 9223372036854775808) % 18446744073709551616 - 9223372036854775808 := by
  simp [IntKind.wrap, IntKind.bits, IntKind.signed]
  split <;> omega
/-- The whole number that a word of two's complement stands for. -/
def sgn (wide a : Int) : Int := if 2 * a < top wide + 1 then a else a - (top wide + 1)
theorem l1Signed (wide a : Int) (hw : 1 ≤ wide ∧ wide ≤ 62) (ha : W5 wide a) : spec_l1Signed wide a = some (sgn wide a) := by
  obtain ⟨a0, a1⟩ := ha
  obtain ⟨w, rfl⟩ := Int.eq_ofNat_of_zero_le (show 0 ≤ wide by omega)
  obtain ⟨v, rfl⟩ : ∃ v, w = v + 1 := ⟨w - 1, by omega⟩
  have hM := top_pow (n := v + 1)
  have hlt : (2 : Nat) ^ (v + 1) ≤ 2 ^ 62 := Nat.pow_le_pow_right (by decide) (by omega)
  have hpos : 0 < (2 : Nat) ^ v := Nat.two_pow_pos _
  have h2 : (2 : Nat) ^ (v + 1) = 2 * 2 ^ v := by rw [Nat.pow_succ]; omega
  simp at hlt
  have e0 : IntKind.u64.wrap (IntKind.i64.wrap (((v + 1 : Nat) : Int) - 1)) = (v : Int) := by
    rw [wr (by omega), show ((v + 1 : Nat) : Int) - 1 = (v : Int) by omega, wru (by omega)]
  have e1 : bShr .u64 a (v : Int) = a / 2 ^ v := bShr_eq .u64 a v (by simp only [IntKind.bits]; omega)
  have hp : ((2 : Int) ^ v) = ((2 ^ v : Nat) : Int) := by simp
  have hd0 : 0 ≤ a / 2 ^ v := Int.ediv_nonneg a0 (by omega)
  have hd1 : a / 2 ^ v ≤ a := Int.ediv_le_self _ a0
  have e2 : bAnd .u64 (a / 2 ^ v) 1 = a / 2 ^ v % 2 := by
    have := and_top (wide := 1) (by omega) (a := a / 2 ^ v) ⟨hd0, by omega⟩
    rw [top_one] at this
    exact this
  rw [spec_l1Signed_eq, e0, gF (by omega), e1, e2, cut_all (by omega), some_bind]
  have hlt2 : a / 2 ^ v < 2 := Int.ediv_lt_of_lt_mul (by omega) (by omega)
  simp only [sgn]
  by_cases hb : 2 * a < top ((v + 1 : Nat) : Int) + 1
  · have h3 : a / 2 ^ v = 0 := Int.ediv_eq_zero_of_lt a0 (by omega)
    rw [h3, bF (by decide), if_pos hb, wr (by omega)]
  · have h3 : a / 2 ^ v = 1 := by
      have : 1 ≤ a / 2 ^ v := (Int.le_ediv_iff_mul_le (by omega)).2 (by omega)
      omega
    rw [h3, bT (by decide), if_neg hb]
    have hx := xor_all (2 ^ (v + 1) - 1) (by simp; omega)
    have ht : top ((v + 1 : Nat) : Int) = ((2 ^ (v + 1) - 1 : Nat) : Int) := by omega
    rw [ht, hx]
    have hmod : ((18446744073709551615 - (2 ^ (v + 1) - 1) : Nat) : Int) % 2 ^ (v + 1) = 0 := by
      have e5 : 18446744073709551615 - (2 ^ (v + 1) - 1) = 2 ^ (v + 1) * (2 ^ (64 - (v + 1)) - 1) := by
        rw [Nat.mul_sub, ← Nat.pow_add, show v + 1 + (64 - (v + 1)) = 64 by omega]
        omega
      rw [e5, Int.natCast_mul]
      have : ((2 : Int) ^ (v + 1)) = ((2 ^ (v + 1) : Nat) : Int) := by simp
      rw [this, Int.mul_emod_right]
    have hj : bOr .u64 ((18446744073709551615 - (2 ^ (v + 1) - 1) : Nat) : Int) a = ((18446744073709551615 - (2 ^ (v + 1) - 1) : Nat) : Int) + a :=
      bits_join .u64 64 (by decide) (fun n h0 h1 => wru ⟨h0, by simpa using h1⟩) (v + 1) ((18446744073709551615 - (2 ^ (v + 1) - 1) : Nat) : Int) a (by omega) hmod (by simp; omega) a0 (by
        have : ((2 : Int) ^ (v + 1)) = ((2 ^ (v + 1) : Nat) : Int) := by simp
        omega) (by simp; omega)
    rw [or_comm64 a _ ⟨a0, by omega⟩ ⟨by omega, by omega⟩, hj]
    congr 1
    rw [wr_mod]
    omega
theorem signed (wide a : Int) (hw : 1 ≤ wide ∧ wide ≤ 62) (ha : W5 wide a) : impl_signed wide a = some (sgn wide a) := by
  obtain ⟨a0, a1⟩ := ha
  obtain ⟨w, rfl⟩ := Int.eq_ofNat_of_zero_le (show 0 ≤ wide by omega)
  have hM := top_pow (n := w)
  have hpos : 0 < (2 : Nat) ^ w := Nat.two_pow_pos _
  have hq : 0 < (2 : Nat) ^ (64 - w) := Nat.two_pow_pos _
  have hmul : (2 : Nat) ^ w * 2 ^ (64 - w) = 18446744073709551616 := by rw [← Nat.pow_add, show w + (64 - w) = 64 by omega]
  have e0 : IntKind.i64.wrap (64 - (w : Int)) = ((64 - w : Nat) : Int) := by rw [wr (by omega)]; omega
  rw [impl_signed_eq, e0, gF (by omega), gF (by omega), bShr_eq .i64 _ (64 - w) (by simp only [IntKind.bits]; omega)]
  have hn64 : min (((64 - w : Nat) : Int)).toNat (IntKind.u64.bits) = 64 - w := by simp only [Int.toNat_natCast, IntKind.bits]; omega
  have hp : ((2 : Int) ^ (64 - w)) = ((2 ^ (64 - w) : Nat) : Int) := by simp
  unfold bShl
  rw [hn64, hp]
  generalize hQ : 2 ^ (64 - w) = Q at *
  generalize hW : 2 ^ w = V at *
  obtain ⟨x, rfl⟩ := Int.eq_ofNat_of_zero_le a0
  have hx : x < V := by omega
  have hxm : x * Q < V * Q := (Nat.mul_lt_mul_right hq).2 hx
  have e1 : IntKind.u64.wrap ((x : Int) * (Q : Int)) = ((x * Q : Nat) : Int) := by rw [← Int.natCast_mul, wru (by omega)]
  rw [e1]
  congr 1
  unfold sgn
  by_cases hb : 2 * (x : Int) < top (w : Int) + 1
  · rw [if_pos hb]
    have h3 : 2 * (x * Q) < V * Q := by
      have : (2 * x) * Q < V * Q := (Nat.mul_lt_mul_right hq).2 (by omega)
      rwa [Nat.mul_assoc] at this
    rw [wr (by omega), Int.natCast_mul, Int.mul_ediv_cancel _ (by omega)]
  · rw [if_neg hb]
    have h3 : V * Q ≤ 2 * (x * Q) := by
      have : V * Q ≤ (2 * x) * Q := Nat.mul_le_mul_right _ (by omega)
      rwa [Nat.mul_assoc] at this
    have e4 : IntKind.i64.wrap ((x * Q : Nat) : Int) = ((x : Int) - (V : Int)) * (Q : Int) := by
      have e5 : ((x : Int) - (V : Int)) * (Q : Int) = ((x * Q : Nat) : Int) - 18446744073709551616 := by
        rw [Int.sub_mul, ← Int.natCast_mul, ← Int.natCast_mul, hmul]
        rfl
      rw [e5, wr_mod]
      omega
    rw [e4, Int.mul_ediv_cancel _ (by omega), hM]
theorem div_words {wide a b : Int} (hw : 1 ≤ wide ∧ wide ≤ 64) (ha : W5 wide a) (hb : W5 wide b) (h : b ≠ 0) : W5 wide (a / b) ∧ W5 wide (a % b) := by
  obtain ⟨a0, a1⟩ := ha
  obtain ⟨b0, b1⟩ := hb
  have h1 := Int.ediv_le_self b a0
  have h2 := Int.emod_lt_of_pos a (show 0 < b by omega)
  exact ⟨⟨Int.ediv_nonneg a0 b0, by omega⟩, ⟨Int.emod_nonneg a h, by omega⟩⟩
theorem divWord {wide a b : Int} (hw : 1 ≤ wide ∧ wide ≤ 64) (ha : W5 wide a) (hb : W5 wide b) :
    spec_DivWord wide a b = some (if b = 0 then top wide else a / b, if b = 0 then a else a % b, true) ∧ impl_DivWord wide a b = some (if b = 0 then top wide else a / b, if b = 0 then a else a % b, true) := by
  have ua := ha.u64 hw
  have ub := hb.u64 hw
  constructor
  · rw [spec_DivWord_eq, spec_l1Both_eq, spec_goodWord wide a ua, spec_goodWord wide b ub, word_good hw ha, word_good hw hb]
    simp only [some_bind, cond_true]
    rw [bF (by rfl)]
    by_cases h : b = 0
    · rw [bT (by simpa using h), cut_all hw, if_pos h, if_pos h]
      rfl
    · have hd := div_words hw ha hb h
      have hu := hd.1.u64 hw
      have hf : (b == 0) = false := beqF h
      rw [hf, cond_false, cond_false, cond_false, if_neg h, if_neg h, Int.tdiv_eq_ediv_of_nonneg ha.1, Int.tmod_eq_emod_of_nonneg ha.1, wru hu]
  · rw [impl_DivWord_eq, impl_areWords_eq, impl_goodWord, impl_goodWord, word_good hw ha, word_good hw hb]
    simp only [some_bind, cond_true]
    rw [bF (by rfl)]
    by_cases h : b = 0
    · rw [bT (by simpa using h), mask_top wide hw, if_pos h, if_pos h]
      rfl
    · have hd := div_words hw ha hb h
      have hu := hd.1.u64 hw
      have hf : (b == 0) = false := beqF h
      have hb0 := hb.1
      rw [bits_Div64_eq, hf, cond_false, cond_false, gF (by omega), bT (by rfl), cond_false, cond_false, some_bind, if_neg h, if_neg h, Int.tdiv_eq_ediv_of_nonneg ha.1, Int.tmod_eq_emod_of_nonneg ha.1, wru hu]
theorem truth (c : Bool) : spec_l2Bool c = some (if c = true then 1 else 0) ∧ impl_truth c = some (if c = true then 1 else 0) := by
  rw [spec_l2Bool_eq, impl_truth_eq]
  cases c <;> exact ⟨rfl, rfl⟩
/-- What an operation makes of two words: the reference's and the program's are one. -/
theorem ops_both (wide op a b : Int) (hw : 1 ≤ wide ∧ wide ≤ 62) (ha : W5 wide a) (hb : W5 wide b) (ho : (3 ≤ op ∧ op ≤ 12) ∨ (14 ≤ op ∧ op ≤ 18)) :
    ∃ r, W5 wide r ∧ ((op = 14 ∨ op = 15 ∨ op = 16 ∨ ((op = 17 ∨ op = 18) ∧ a ≤ 1 ∧ b ≤ 1)) → r ≤ 1) ∧ spec_l2Do wide op a b = some r ∧ impl_apply wide op a b = some r := by
  have hw' : 1 ≤ wide ∧ wide ≤ 64 := by omega
  have ht := top_in hw'
  have hm := mask_top wide hw'
  obtain ⟨hb1, hb2, hb3⟩ := bits_in hw' ha hb
  obtain ⟨hD, hI⟩ := divWord hw' ha hb
  have hbool : ∀ c : Bool, W5 wide (if c = true then 1 else 0) ∧ (if c = true then (1 : Int) else 0) ≤ 1 := by
    intro c
    cases c
    · exact ⟨⟨by simp, by simp; omega⟩, by simp⟩
    · exact ⟨⟨by simp, by simp; omega⟩, by simp⟩
  rw [spec_l2Do_eq, impl_apply_eq, hD, some_bind]
  rcases (show op = 3 ∨ op = 4 ∨ op = 5 ∨ op = 6 ∨ op = 7 ∨ op = 8 ∨ op = 9 ∨ op = 10 ∨ op = 11 ∨ op = 12 ∨ op = 14 ∨ op = 15 ∨ op = 16 ∨ op = 17 ∨ op = 18 by omega) with rfl | rfl | rfl | rfl | rfl | rfl | rfl | rfl | rfl | rfl | rfl | rfl | rfl | rfl | rfl
  all_goals simp only [show ∀ x y : Int, (x == y) = decide (x = y) from fun x y => rfl, decide_true, cond_true, cond_false, Int.reduceEq, decide_false, hm, some_bind, bind_id]
  · exact ⟨_, mod_word hw', by simp, cut_mod hw' (wrapU _), by rw [and_top hw' (wrapU _)]⟩
  · exact ⟨_, mod_word hw', by simp, cut_mod hw' (wrapU _), by rw [and_top hw' (wrapU _)]⟩
  · exact ⟨_, mod_word hw', by simp, cut_mod hw' (wrapU _), by rw [and_top hw' (wrapU _)]⟩
  · have hr : W5 wide (if b = 0 then top wide else a / b) := by
      by_cases h : b = 0
      · rw [if_pos h]
        exact ⟨by omega, Int.le_refl _⟩
      · rw [if_neg h]
        exact (div_words hw' ha hb h).1
    exact ⟨_, hr, by simp, rfl, by rw [hI, some_bind]; dsimp only; rw [mask_word hw' hr]⟩
  · have hr : W5 wide (if b = 0 then a else a % b) := by
      by_cases h : b = 0
      · rw [if_pos h]
        exact ha
      · rw [if_neg h]
        exact (div_words hw' ha hb h).2
    exact ⟨_, hr, by simp, rfl, by rw [hI, some_bind]; dsimp only; rw [mask_word hw' hr]⟩
  · exact ⟨_, hb1, by simp, rfl, by rw [mask_word hw' hb1]⟩
  · exact ⟨_, hb2, by simp, rfl, by rw [mask_word hw' hb2]⟩
  · exact ⟨_, hb3, by simp, rfl, by rw [mask_word hw' hb3]⟩
  · obtain ⟨r, h1, h2, q, h3, h4, h5⟩ := shift_both wide (by omega) a b ha (hb.u64 hw') true
    exact ⟨r, h1, by simp, h2, by rw [h3, some_bind, h5]⟩
  · obtain ⟨r, h1, h2, q, h3, h4, h5⟩ := shift_both wide (by omega) a b ha (hb.u64 hw') false
    exact ⟨r, h1, by simp, h2, by rw [h3, some_bind, h5]⟩
  · have hc := hbool (decide (a = b))
    exact ⟨_, hc.1, fun _ => hc.2, (truth _).1, by rw [(truth _).2, some_bind, mask_word hw' hc.1]⟩
  · have hc := hbool (decide (a < b))
    exact ⟨_, hc.1, fun _ => hc.2, (truth _).1, by rw [(truth _).2, some_bind, mask_word hw' hc.1]⟩
  · have hc := hbool (decide (sgn wide a < sgn wide b))
    rw [l1Signed wide a hw ha, l1Signed wide b hw hb, signed wide a hw ha, signed wide b hw hb]
    simp only [some_bind]
    exact ⟨_, hc.1, fun _ => hc.2, (truth _).1, by rw [(truth _).2, some_bind, mask_word hw' hc.1]⟩
  · refine ⟨_, hb1, fun h => ?_, rfl, by rw [mask_word hw' hb1]⟩
    have h1 : W5 1 a ∧ W5 1 b := by
      simp at h
      have ha0 := ha.1
      have hb0 := hb.1
      have e := top_one
      unfold W5
      omega
    have := (bits_in (wide := 1) (by omega) h1.1 h1.2).1.2
    rw [top_one] at this
    exact this
  · refine ⟨_, hb2, fun h => ?_, rfl, by rw [mask_word hw' hb2]⟩
    have h1 : W5 1 a ∧ W5 1 b := by
      simp at h
      have ha0 := ha.1
      have hb0 := hb.1
      have e := top_one
      unfold W5
      omega
    have := (bits_in (wide := 1) (by omega) h1.1 h1.2).2.1.2
    rw [top_one] at this
    exact this
/-- One operation on a stack of values: it takes its parts off the end and lays its own there. -/
def sstep {V : Type} (f : DNode → List V → V) (st : List V) (x : DNode) : List V :=
  st.take (st.length - (need x.1).1.toNat) ++ [f x (st.drop (st.length - (need x.1).1.toNat))]
/-- The stack ahead of the i-th operation. -/
def stackAt {V : Type} (f : DNode → List V → V) (t : List DNode) (i : Nat) : List V := (t.take i).foldl (sstep f) []
theorem stackAt_succ {V : Type} (f : DNode → List V → V) (t : List DNode) (i : Nat) (h : i < t.length) : stackAt f t (i + 1) = sstep f (stackAt f t i) t[i] := by
  unfold stackAt
  rw [List.take_succ_eq_append_getElem h, List.foldl_append]
  rfl
/-- No operation lacks its parts. -/
def Enough {V : Type} (f : DNode → List V → V) (t : List DNode) : Prop := ∀ i (h : i < t.length), (need t[i].1).1.toNat ≤ (stackAt f t i).length
/-- Where the tree of the i-th operation begins, the stack is what the tree leaves below its value. -/
theorem l2From {V : Type} (f : DNode → List V → V) (t : Bool × List DNode) (ht : t.2.length ≤ 48) (he : Enough f t.2) : ∀ (n i : Nat), i ≤ n → i < t.2.length →
    ∃ j : Nat, j ≤ i ∧ spec_l2From t (i : Int) = some (j : Int) ∧ ∃ v, stackAt f t.2 (i + 1) = stackAt f t.2 j ++ [v] := by
  intro n
  induction n with
  | zero =>
    intro i hi h
    obtain rfl : i = 0 := by omega
    obtain ⟨m, hm, hm2⟩ := need_two t.2[0].1
    have hen := he 0 h
    have hz : stackAt f t.2 0 = [] := rfl
    rw [hm, hz] at hen
    simp at hen
    subst hen
    refine ⟨0, by omega, ?_, ?_⟩
    · rw [spec_l2From_eq, gT (by omega), gT (by omega), show t.2.getD (Int.toNat ((0 : Nat) : Int)) (0, 0) = t.2[0] from getD_at t.2 _ 0 h, l2Need, some_bind, hm, spec_l2From_L0_eq, gF (by omega)]
      rfl
    · rw [stackAt_succ f t.2 0 h, hz]
      simp only [sstep, List.take_nil]
      exact ⟨_, rfl⟩
  | succ n ih =>
    intro i hi h
    obtain ⟨m, hm, hm2⟩ := need_two t.2[i].1
    have hen := he i h
    simp only [hm, Int.toNat_natCast] at hen
    have e0 : spec_l2From t (i : Int) = spec_l2From_L0 t (m : Int) (i : Int) := by
      rw [spec_l2From_eq, gT (by omega), gT (by omega), getD_at t.2 _ i h, l2Need, some_bind, hm, bind_id]
    have es : stackAt f t.2 (i + 1) = (stackAt f t.2 i).take ((stackAt f t.2 i).length - m) ++ [f t.2[i] ((stackAt f t.2 i).drop ((stackAt f t.2 i).length - m))] := by
      rw [stackAt_succ f t.2 i h]
      simp only [sstep, hm, Int.toNat_natCast]
    rcases (show m = 0 ∨ m = 1 ∨ m = 2 by omega) with rfl | rfl | rfl
    · refine ⟨i, by omega, ?_, f t.2[i] ((stackAt f t.2 i).drop ((stackAt f t.2 i).length - 0)), ?_⟩
      · rw [e0, spec_l2From_L0_eq, gF (by omega)]
      · rw [es, Nat.sub_zero, List.take_length]
    · have hi0 : 0 < i := by
        rcases Nat.eq_zero_or_pos i with rfl | h0
        · have hz : stackAt f t.2 0 = [] := rfl
          rw [hz] at hen
          simp at hen
        · exact h0
      obtain ⟨j, hj, ej, v, ev⟩ := ih (i - 1) (by omega) (by omega)
      rw [show i - 1 + 1 = i by omega] at ev
      refine ⟨j, by omega, ?_, ?_⟩
      · rw [e0, spec_l2From_L0_eq, gT (by omega), dn1 i (by omega) hi0, ej, some_bind, spec_l2From_L0_eq, gF (by rw [wr (by omega)]; omega)]
        rfl
      · rw [es, ev]
        simp only [List.length_append, List.length_singleton, Nat.add_sub_cancel]
        rw [List.take_left' rfl]
        exact ⟨_, rfl⟩
    · have hi0 : 0 < i := by
        rcases Nat.eq_zero_or_pos i with rfl | h0
        · have hz : stackAt f t.2 0 = [] := rfl
          rw [hz] at hen
          simp at hen
        · exact h0
      obtain ⟨j, hj, ej, v, ev⟩ := ih (i - 1) (by omega) (by omega)
      rw [show i - 1 + 1 = i by omega] at ev
      have hj0 : 0 < j := by
        rcases Nat.eq_zero_or_pos j with rfl | h0
        · rw [ev] at hen
          have hz : stackAt f t.2 0 = [] := rfl
          rw [hz] at hen
          simp at hen
        · exact h0
      obtain ⟨j2, hj2, ej2, v2, ev2⟩ := ih (j - 1) (by omega) (by omega)
      rw [show j - 1 + 1 = j by omega] at ev2
      refine ⟨j2, by omega, ?_, ?_⟩
      · rw [e0, spec_l2From_L0_eq, gT (by omega), dn1 i (by omega) hi0, ej, some_bind, spec_l2From_L0_eq, gT (by rw [wr (by omega)]; omega), dn1 j (by omega) hj0, ej2, some_bind, spec_l2From_L0_eq, gF (by rw [wr (by rw [wr (by omega)]; omega), wr (by omega)]; omega)]
        rfl
      · rw [es, ev, ev2]
        simp only [List.append_assoc, List.length_append, List.length_singleton, List.cons_append, List.nil_append, List.length_cons, List.length_nil]
        rw [show (stackAt f t.2 j2).length + (0 + 1 + 1) - 2 = (stackAt f t.2 j2).length by omega, List.take_left' rfl]
        exact ⟨_, rfl⟩
theorem stackAt_zero {V : Type} (f : DNode → List V → V) (t : List DNode) : stackAt f t 0 = [] := rfl
theorem sstep_of {V : Type} (f : DNode → List V → V) (st args : List V) (x : DNode) {p : Int × Int} (m : Nat) (hn : need x.1 = ((m : Int), p)) (hm : args.length = m) : sstep f (st ++ args) x = st ++ [f x args] := by
  simp only [sstep, hn, Int.toNat_natCast]
  have : (st ++ args).length - m = st.length := by rw [List.length_append]; omega
  rw [this, List.take_left' rfl, List.drop_left' rfl]
theorem kstep_some {wide vars : Int} {ks ks' : List Int} {x : DNode} (h : kstep wide vars ks x = some ks') :
    (need x.1).2.2 ≠ 0 ∧ leafOk wide vars x.1 x.2 = true ∧ (need x.1).1.toNat ≤ ks.length ∧ (ks.drop (ks.length - (need x.1).1.toNat)).all (fun y => y == (need x.1).2.1) = true ∧ ks' = ks.take (ks.length - (need x.1).1.toNat) ++ [(need x.1).2.2] := by
  unfold kstep at h
  split at h
  · simp at h
  · split at h
    · split at h
      · simp at h
      · split at h
        · rename_i h1 h2 h3 h4
          simp only [Option.some.injEq] at h
          refine ⟨h1, h2, ?_, h4, h.symm⟩
          obtain ⟨m, hm, _⟩ := need_two x.1
          rw [hm] at h3 ⊢
          omega
        · simp at h
    · simp at h
theorem need_op {op : Int} {m p o : Int} (h : need op = (m, p, o)) (ho : o ≠ 0) : (m = 0 ∧ o = 1 ∧ (op = 1 ∨ op = 2)) ∨ (m = 0 ∧ o = 2 ∧ op = 20) ∨ (m = 1 ∧ p = 1 ∧ o = 1 ∧ op = 13) ∨ (m = 1 ∧ p = 2 ∧ o = 2 ∧ op = 19) ∨ (m = 2 ∧ p = 1 ∧ o = 1 ∧ 3 ≤ op ∧ op ≤ 12) ∨ (m = 2 ∧ p = 1 ∧ o = 2 ∧ 14 ≤ op ∧ op ≤ 16) ∨ (m = 2 ∧ p = 2 ∧ o = 2 ∧ (op = 17 ∨ op = 18)) := by
  unfold need at h
  by_cases c1 : op = 1 ∨ op = 2
  · rw [if_pos c1] at h
    cases h
    exact .inl ⟨rfl, rfl, c1⟩
  rw [if_neg c1] at h
  by_cases c2 : op = 20
  · rw [if_pos c2] at h
    cases h
    exact .inr (.inl ⟨rfl, rfl, c2⟩)
  rw [if_neg c2] at h
  by_cases c3 : op = 13
  · rw [if_pos c3] at h
    cases h
    exact .inr (.inr (.inl ⟨rfl, rfl, rfl, c3⟩))
  rw [if_neg c3] at h
  by_cases c4 : op = 19
  · rw [if_pos c4] at h
    cases h
    exact .inr (.inr (.inr (.inl ⟨rfl, rfl, rfl, c4⟩)))
  rw [if_neg c4] at h
  by_cases c5 : 3 ≤ op ∧ op ≤ 12
  · rw [if_pos c5] at h
    cases h
    exact .inr (.inr (.inr (.inr (.inl ⟨rfl, rfl, rfl, c5⟩))))
  rw [if_neg c5] at h
  by_cases c6 : 14 ≤ op ∧ op ≤ 16
  · rw [if_pos c6] at h
    cases h
    exact .inr (.inr (.inr (.inr (.inr (.inl ⟨rfl, rfl, rfl, c6⟩)))))
  rw [if_neg c6] at h
  by_cases c7 : op = 17 ∨ op = 18
  · rw [if_pos c7] at h
    cases h
    exact .inr (.inr (.inr (.inr (.inr (.inr ⟨rfl, rfl, rfl, c7⟩)))))
  rw [if_neg c7] at h
  cases h
  exact absurd rfl ho
/-- What an operation makes of two words. -/
noncomputable def ap (wide op a b : Int) : Int := (impl_apply wide op a b).getD 0
theorem ap_both (wide op a b : Int) (hw : 1 ≤ wide ∧ wide ≤ 62) (ha : W5 wide a) (hb : W5 wide b) (ho : (3 ≤ op ∧ op ≤ 12) ∨ (14 ≤ op ∧ op ≤ 18)) :
    W5 wide (ap wide op a b) ∧ ((op = 14 ∨ op = 15 ∨ op = 16 ∨ ((op = 17 ∨ op = 18) ∧ a ≤ 1 ∧ b ≤ 1)) → ap wide op a b ≤ 1) ∧ spec_l2Do wide op a b = some (ap wide op a b) ∧ impl_apply wide op a b = some (ap wide op a b) := by
  obtain ⟨r, h1, h2, h3, h4⟩ := ops_both wide op a b hw ha hb ho
  have e : ap wide op a b = r := by
    unfold ap
    rw [h4]
    rfl
  rw [e]
  exact ⟨h1, h2, h3, h4⟩
/-- The value of an operation with its parts' values, in a state. -/
noncomputable def vop (wide : Int) (s : List Int) (x : DNode) : List Int → Int
  | [] => if x.1 = 2 then s.getD x.2.toNat 0 else x.2
  | [b] => if x.1 = 13 then top wide - b else 1 - b
  | [a, b] => ap wide x.1 a b
  | _ => 0
inductive TypedV (wide : Int) : List Int → List Int → Prop
  | nil : TypedV wide [] []
  | snoc {ks st : List Int} {k v : Int} : TypedV wide ks st → W5 wide v → (k = 2 → v ≤ 1) → TypedV wide (ks ++ [k]) (st ++ [v])
theorem TypedV.inv {wide : Int} {ks st : List Int} (h : TypedV wide ks st) : (ks = [] ∧ st = []) ∨ ∃ ks' st' k v, ks = ks' ++ [k] ∧ st = st' ++ [v] ∧ TypedV wide ks' st' ∧ W5 wide v ∧ (k = 2 → v ≤ 1) := by
  cases h with
  | nil => exact .inl ⟨rfl, rfl⟩
  | snoc h1 h2 h3 => exact .inr ⟨_, _, _, _, rfl, rfl, h1, h2, h3⟩
theorem TypedV.len {wide : Int} {ks st : List Int} (h : TypedV wide ks st) : ks.length = st.length := by
  induction h with
  | nil => rfl
  | snoc _ _ _ ih => simp [ih]
theorem typedV_step (wide : Int) (hw : 1 ≤ wide ∧ wide ≤ 62) (s : List Int) (hs : ∀ v ∈ s, W5 wide v) (x : DNode) (hx : U64 x.2) {ks ks' st : List Int}
    (h : kstep wide (s.length : Int) ks x = some ks') (ht : TypedV wide ks st) : TypedV wide ks' (sstep (vop wide s) st x) := by
  obtain ⟨h1, h2, h3, h4, rfl⟩ := kstep_some h
  have he := top_in (wide := wide) (by omega)
  obtain ⟨m, p, o, hn⟩ : ∃ m p o, need x.1 = (m, p, o) := ⟨_, _, _, rfl⟩
  have hlen := ht.len
  simp only [sstep, hn] at h1 h3 h4 ⊢
  rw [← hlen]
  rcases need_op hn h1 with ⟨rfl, rfl, ho⟩ | ⟨rfl, rfl, ho⟩ | ⟨rfl, rfl, rfl, ho⟩ | ⟨rfl, rfl, rfl, ho⟩ | ⟨rfl, rfl, rfl, ho⟩ | ⟨rfl, rfl, rfl, ho⟩ | ⟨rfl, rfl, rfl, ho⟩
  · simp only [Int.toNat_zero, Nat.sub_zero, List.take_length]
    rw [hlen, List.take_length, List.drop_length]
    refine .snoc ht ?_ (fun h => absurd h (by decide))
    unfold leafOk at h2
    rcases ho with ho | ho
    · rw [if_pos ho, goodWord_iff] at h2
      simp only [vop, ho]
      exact ⟨hx.1, h2.2.2⟩
    · rw [if_neg (by omega), if_pos ho, decide_eq_true_eq] at h2
      simp only [vop, ho, if_true]
      apply hs
      rw [List.getD_eq_getElem?_getD, List.getElem?_eq_getElem (by have := hx.1; omega)]
      exact List.getElem_mem _
  · simp only [Int.toNat_zero, Nat.sub_zero, List.take_length]
    rw [hlen, List.take_length, List.drop_length]
    unfold leafOk at h2
    rw [if_neg (by omega), if_neg (by omega), if_pos ho, decide_eq_true_eq] at h2
    have h0 := hx.1
    have hne : ¬ x.1 = 2 := by omega
    refine .snoc ht ?_ (fun _ => ?_)
    · simp only [vop, if_neg hne]
      exact ⟨h0, by omega⟩
    · simp only [vop, if_neg hne]
      omega
  · rcases ht.inv with ⟨rfl, rfl⟩ | ⟨ks, st, k, v, rfl, rfl, t1, t2, t3⟩
    · simp at h3
    · have l1 := t1.len
      have e1 : (ks ++ [k]).length - (1 : Int).toNat = ks.length := by simp
      rw [e1]
      rw [List.take_left' rfl, List.take_left' l1.symm, List.drop_left' l1.symm]
      simp only [vop, ho, if_true]
      refine .snoc t1 ?_ (fun h => absurd h (by decide))
      obtain ⟨f1, f2⟩ := t2
      exact ⟨by omega, by omega⟩
  · rcases ht.inv with ⟨rfl, rfl⟩ | ⟨ks, st, k, v, rfl, rfl, t1, t2, t3⟩
    · simp at h3
    · have l1 := t1.len
      have e1 : (ks ++ [k]).length - (1 : Int).toNat = ks.length := by simp
      rw [e1] at h4 ⊢
      rw [List.drop_left' rfl] at h4
      have hk : k = 2 := by simpa using h4
      rw [List.take_left' rfl, List.take_left' l1.symm, List.drop_left' l1.symm]
      have hne : ¬ x.1 = 13 := by omega
      simp only [vop, if_neg hne]
      obtain ⟨f1, f2⟩ := t2
      have f4 := t3 hk
      exact .snoc t1 ⟨by omega, by omega⟩ (fun _ => by omega)
  all_goals
    rcases ht.inv with ⟨rfl, rfl⟩ | ⟨ks, st, k, v, rfl, rfl, t1, t2, t3⟩
    · simp at h3
    · rcases t1.inv with ⟨rfl, rfl⟩ | ⟨ks, st, k', v', rfl, rfl, s1, s2, s3⟩
      · simp at h3
      · have l1 := s1.len
        have e1 : (ks ++ [k'] ++ [k]).length - (2 : Int).toNat = ks.length := by simp
        rw [e1] at h4 ⊢
        rw [List.append_assoc] at h4
        rw [List.drop_left' rfl] at h4
        simp only [List.cons_append, List.nil_append, List.all_cons, List.all_nil, Bool.and_true, Bool.and_eq_true, beq_iff_eq] at h4
        rw [List.append_assoc ks, List.append_assoc st, List.take_left' rfl, List.take_left' l1.symm, List.drop_left' l1.symm]
        obtain ⟨q1, q2, _⟩ := ap_both wide x.1 v' v hw s2 t2 (by omega)
        refine .snoc s1 q1 ?_
        first
          | (intro h; exact absurd h (by decide))
          | (intro _; exact q2 (by first | omega | exact .inr (.inr (.inr ⟨ho, s3 h4.1, t3 h4.2⟩))))
theorem typedV_at (wide : Int) (hw : 1 ≤ wide ∧ wide ≤ 62) (s : List Int) (hs : ∀ v ∈ s, W5 wide v) (t : List DNode) (hx : ∀ x ∈ t, U64 x.2) {r : List Int} (h : kfold wide (s.length : Int) t [] = some r) :
    ∀ i, i ≤ t.length → ∃ ks, kfold wide (s.length : Int) (t.drop i) ks = some r ∧ TypedV wide ks (stackAt (vop wide s) t i) := by
  intro i
  induction i with
  | zero => exact fun _ => ⟨[], h, .nil⟩
  | succ i ih =>
    intro hi
    obtain ⟨ks, h1, h2⟩ := ih (by omega)
    rw [List.drop_eq_getElem_cons (by omega)] at h1
    simp only [kfold, Option.bind_eq_some_iff] at h1
    obtain ⟨ks', h3, h4⟩ := h1
    exact ⟨ks', h4, by rw [stackAt_succ _ _ _ (by omega)]; exact typedV_step wide hw s hs _ (hx _ (List.getElem_mem _)) h3 h2⟩
theorem typedV_op (wide : Int) (hw : 1 ≤ wide ∧ wide ≤ 62) (s : List Int) (hs : ∀ v ∈ s, W5 wide v) (t : List DNode) (hx : ∀ x ∈ t, U64 x.2) {r : List Int} (h : kfold wide (s.length : Int) t [] = some r) (i : Nat) (hi : i < t.length) :
    leafOk wide (s.length : Int) t[i].1 t[i].2 = true ∧
    (((t[i].1 = 1 ∨ t[i].1 = 2 ∨ t[i].1 = 20) ∧ need t[i].1 = (0, (need t[i].1).2)) ∨
     ((t[i].1 = 13 ∨ t[i].1 = 19) ∧ need t[i].1 = (1, (need t[i].1).2) ∧ ∃ st b, stackAt (vop wide s) t i = st ++ [b] ∧ W5 wide b ∧ (t[i].1 = 19 → b ≤ 1)) ∨
     (((3 ≤ t[i].1 ∧ t[i].1 ≤ 12) ∨ (14 ≤ t[i].1 ∧ t[i].1 ≤ 18)) ∧ need t[i].1 = (2, (need t[i].1).2) ∧ ∃ st a b, stackAt (vop wide s) t i = st ++ [a, b] ∧ W5 wide a ∧ W5 wide b)) := by
  obtain ⟨ks, h1, h2⟩ := typedV_at wide hw s hs t hx h i (by omega)
  rw [List.drop_eq_getElem_cons hi] at h1
  simp only [kfold, Option.bind_eq_some_iff] at h1
  obtain ⟨ks', h3, _⟩ := h1
  obtain ⟨g1, g2, g3, g4, _⟩ := kstep_some h3
  refine ⟨g2, ?_⟩
  obtain ⟨m, p, o, hn⟩ : ∃ m p o, need t[i].1 = (m, p, o) := ⟨_, _, _, rfl⟩
  generalize stackAt (vop wide s) t i = st at h2 ⊢
  simp only [hn] at g1 g3 g4 ⊢
  rcases need_op hn g1 with ⟨rfl, rfl, ho⟩ | ⟨rfl, rfl, ho⟩ | ⟨rfl, rfl, rfl, ho⟩ | ⟨rfl, rfl, rfl, ho⟩ | ⟨rfl, rfl, rfl, ho⟩ | ⟨rfl, rfl, rfl, ho⟩ | ⟨rfl, rfl, rfl, ho⟩
  · exact .inl ⟨by omega, rfl⟩
  · exact .inl ⟨by omega, rfl⟩
  · rcases h2.inv with ⟨rfl, rfl⟩ | ⟨ks, st, k, v, rfl, rfl, t1, t2, t3⟩
    · simp at g3
    · exact .inr (.inl ⟨.inl ho, rfl, st, v, rfl, t2, fun h => by omega⟩)
  · rcases h2.inv with ⟨rfl, rfl⟩ | ⟨ks, st, k, v, rfl, rfl, t1, t2, t3⟩
    · simp at g3
    · have e1 : (ks ++ [k]).length - (1 : Int).toNat = ks.length := by simp
      rw [e1, List.drop_left' rfl] at g4
      exact .inr (.inl ⟨.inr ho, rfl, st, v, rfl, t2, fun _ => t3 (by simpa using g4)⟩)
  all_goals
    rcases h2.inv with ⟨rfl, rfl⟩ | ⟨ks, st, k, v, rfl, rfl, t1, t2, t3⟩
    · simp at g3
    · rcases t1.inv with ⟨rfl, rfl⟩ | ⟨ks, st, k', v', rfl, rfl, s1, s2, s3⟩
      · simp at g3
      · exact .inr (.inr ⟨by omega, rfl, st, v', v, by simp, s2, t2⟩)
theorem not_mask (wide b : Int) (hw : 1 ≤ wide ∧ wide ≤ 62) (hb : W5 wide b) : bAnd .u64 (bXor .u64 18446744073709551615 b) (top wide) = top wide - b := by
  obtain ⟨h1, h2⟩ := cut_not (wide := wide) (by omega) hb.1 hb.2
  rw [and_top (by omega) h1, h2]
theorem valueOf_L0 (wide : Int) (hw : 1 ≤ wide ∧ wide ≤ 62) (s : Bool × List Int) (hl : s.2.length ≤ 1000) (hs : ∀ v ∈ s.2, W5 wide v) (t : Bool × List DNode) (ht : t.2.length ≤ 1000) (hx : WfN t.2) {r : List Int} (h : kfold wide (s.2.length : Int) t.2 [] = some r) (d : Nat) :
    ∀ (i : Nat) (b : Bool), i + d = t.2.length → (stackAt (vop wide s.2) t.2 i).length ≤ i →
    ∃ b', impl_valueOf_L0 wide s (b, stackAt (vop wide s.2) t.2 i) t (t.2.length : Int) (i : Int) = some (b', stackAt (vop wide s.2) t.2 t.2.length) := by
  have he := top_in (wide := wide) (by omega)
  have hlim := lim_eq
  induction d with
  | zero =>
    intro i b hi hst
    obtain rfl : i = t.2.length := by omega
    rw [impl_valueOf_L0_eq, gF (by omega)]
    exact ⟨b, rfl⟩
  | succ d ih =>
    intro i b0 hi hst
    have hlt : i < t.2.length := by omega
    have hu := hx _ (List.getElem_mem hlt)
    have go := fun b => ih (i + 1) b (by omega)
    obtain ⟨hlf, hop⟩ := typedV_op wide hw s.2 hs t.2 hx h i hlt
    have es := stackAt_succ (vop wide s.2) t.2 i hlt
    rw [impl_valueOf_L0_eq, gT (by omega), gT (by omega), gT (by omega), getD_at t.2 _ i hlt]
    simp only [up1 i (by omega)]
    unfold leafOk at hlf
    generalize hS : stackAt (vop wide s.2) t.2 i = st at *
    rcases hop with ⟨ho, hn⟩ | ⟨ho, hn, st, b, rfl, fb, hb⟩ | ⟨ho, hn, st, a, b, rfl, fa, fb⟩
    · have e1 := sstep_of (vop wide s.2) st [] t.2[i] 0 hn rfl
      rw [List.append_nil] at e1
      rw [es, e1] at go
      obtain ⟨b', g⟩ := go (b0 && false) (by simp; omega)
      refine ⟨b', ?_⟩
      rcases ho with ho | ho | ho
      · have e2 : vop wide s.2 t.2[i] [] = t.2[i].2 := by simp [vop, ho]
        rw [e2] at g
        rw [ho, bT (by rfl), bT (by rfl), gT (by simp; omega), g]
        rfl
      · have e2 : vop wide s.2 t.2[i] [] = s.2.getD t.2[i].2.toNat 0 := by simp [vop, ho]
        rw [e2] at g
        rw [if_neg (by omega), if_pos ho, decide_eq_true_eq] at hlf
        have hu0 := hu.1
        rw [ho, bF (by rfl), bF (by rfl), bT (by rfl), gT hu0, gT hlf, gT (by simp; omega), g]
        rfl
      · have e2 : vop wide s.2 t.2[i] [] = t.2[i].2 := by simp [vop, ho]
        rw [e2] at g
        rw [ho, bF (by rfl), bT (by rfl), gT (by simp; omega), g]
        rfl
    · have e1 := sstep_of (vop wide s.2) st [b] t.2[i] 1 hn rfl
      rw [es, e1] at go
      obtain ⟨b', g⟩ := go b0 (by simp; simp at hst; omega)
      refine ⟨b', ?_⟩
      have hlen1 : (st ++ [b]).length = st.length + 1 := by simp
      have e3 : IntKind.i64.wrap (((st ++ [b]).length : Int) - 1) = (st.length : Int) := by
        rw [hlen1, wr (by omega)]
        omega
      have e4 : (st ++ [b]).getD (Int.toNat (st.length : Int)) 0 = b := by simp
      have e5 : ∀ v : Int, (st ++ [b]).set (Int.toNat (st.length : Int)) v = st ++ [v] := fun v => by simp
      have e6 : (st.length : Int) < ((st ++ [b]).length : Int) := by omega
      have fb' := fb
      obtain ⟨f1, f2⟩ := fb
      rw [e3, e4]
      rcases ho with ho | ho
      · have e2 : vop wide s.2 t.2[i] [b] = top wide - b := by simp [vop, ho]
        rw [e2] at g
        rw [ho, bF (by rfl), bF (by rfl), bF (by rfl), bT (by rfl), gT (by omega), gT e6, mask_top wide (by omega), some_bind, gT (by omega), gT e6, e5, not_mask wide b hw fb', g]
        rfl
      · have e2 : vop wide s.2 t.2[i] [b] = 1 - b := by simp [vop, ho]
        rw [e2] at g
        have hb1 := hb ho
        rw [ho, bF (by rfl), bF (by rfl), bF (by rfl), bF (by rfl), bT (by rfl), gT (by omega), gT e6, gT (by omega), gT e6, e5, wru (by omega), g]
        rfl
    · have e1 := sstep_of (vop wide s.2) st [a, b] t.2[i] 2 hn rfl
      rw [es, e1] at go
      obtain ⟨b', g⟩ := go (b0 && false) (by simp; simp at hst; omega)
      refine ⟨b', ?_⟩
      have hlen : (st ++ [a, b]).length = st.length + 2 := by simp
      have e3 : IntKind.i64.wrap (((st ++ [a, b]).length : Int) - 1) = ((st.length + 1 : Nat) : Int) := by rw [hlen, wr (by omega)]; omega
      have e3' : IntKind.i64.wrap (((st.length + 1 : Nat) : Int) - 1) = (st.length : Int) := by rw [wr (by omega)]; omega
      have e4 : (st ++ [a, b]).getD (Int.toNat ((st.length + 1 : Nat) : Int)) 0 = b := by simp [List.getD_eq_getElem?_getD]
      have e4' : (st ++ [a, b]).getD (Int.toNat (st.length : Int)) 0 = a := by simp [List.getD_eq_getElem?_getD]
      have e2 : vop wide s.2 t.2[i] [a, b] = ap wide t.2[i].1 a b := rfl
      have e7 : ((st ++ [a, b]).take (Int.toNat (st.length : Int))).drop 0 = st := by simp
      rw [e2] at g
      rw [e3, e3', e4, e4', e7, hlen, bF (beqF (by omega)), bF (beqF (by omega)), bF (beqF (by omega)), bF (beqF (by omega)), bF (beqF (by omega)), gT (by omega), gT (by omega), gT (by omega), gT (by omega), gT (by omega), gT (by omega), (ap_both wide t.2[i].1 a b hw fa fb ho).2.2.2, some_bind, gT (by simp; omega), g]
      rfl
theorem l2Value (wide : Int) (hw : 1 ≤ wide ∧ wide ≤ 62) (s : Bool × List Int) (hl : s.2.length ≤ 1000) (hs : ∀ v ∈ s.2, W5 wide v) (t : Bool × List DNode) (ht : t.2.length ≤ 48) (hx : WfN t.2) {r : List Int} (h : kfold wide (s.2.length : Int) t.2 [] = some r) :
    ∀ (n i : Nat), i ≤ n → i < t.2.length → ∃ st v, stackAt (vop wide s.2) t.2 (i + 1) = st ++ [v] ∧ spec_l2Value wide t (i : Int) s = some v := by
  have hen : Enough (vop wide s.2) t.2 := by
    intro i hi
    obtain ⟨_, hop⟩ := typedV_op wide hw s.2 hs t.2 hx h i hi
    rcases hop with ⟨ho, hn⟩ | ⟨ho, hn, st, b, e, fb, hb⟩ | ⟨ho, hn, st, a, b, e, fa, fb⟩
    · rw [hn]
      simp
    · rw [hn, e]
      simp
    · rw [hn, e]
      simp
  have he := top_in (wide := wide) (by omega)
  intro n
  induction n using Nat.strongRecOn with
  | _ n ih =>
    intro i hi hlt
    have hu := hx _ (List.getElem_mem hlt)
    obtain ⟨hlf, hop⟩ := typedV_op wide hw s.2 hs t.2 hx h i hlt
    rw [stackAt_succ _ _ _ hlt, spec_l2Value_eq, gT (by omega), gT (by omega), getD_at t.2 _ i hlt, l2Need, some_bind]
    have hpos : ∀ {x : List Int}, 0 < x.length → stackAt (vop wide s.2) t.2 i = x → 0 < i := by
      intro x hl e
      rcases Nat.eq_zero_or_pos i with rfl | h0
      · rw [stackAt_zero] at e
        subst e
        simp at hl
      · exact h0
    rcases hop with ⟨ho, hn⟩ | ⟨ho, hn, st, b, e, fb, hb⟩ | ⟨ho, hn, st, a, b, e, fa, fb⟩
    · refine ⟨stackAt (vop wide s.2) t.2 i, vop wide s.2 t.2[i] [], ?_, ?_⟩
      · have := sstep_of (vop wide s.2) (stackAt (vop wide s.2) t.2 i) [] t.2[i] 0 hn rfl
        rwa [List.append_nil] at this
      · have h20 : (need t.2[i].1).1 = 0 := by rw [hn]
        unfold leafOk at hlf
        by_cases h2 : t.2[i].1 = 2
        · rw [if_neg (by omega), if_pos h2, decide_eq_true_eq] at hlf
          have hu0 := hu.1
          rw [bT (by simpa using h2), gT hu0, gT hlf]
          simp only [vop, if_pos h2]
        · rw [bF (beqF h2), h20, bT (by rfl)]
          simp only [vop, if_neg h2]
    · have h0 := hpos (by simp) e
      obtain ⟨st', v, g1, g2⟩ := ih (i - 1) (by omega) (i - 1) (by omega) (by omega)
      rw [show i - 1 + 1 = i by omega, e] at g1
      have q0 : st = st' ∧ [b] = [v] := List.append_inj' g1 rfl
      have q0' : v = b := by have := q0.2; simp at this; exact this.symm
      subst q0'
      refine ⟨st, vop wide s.2 t.2[i] [v], ?_, ?_⟩
      · rw [e]
        exact sstep_of (vop wide s.2) st [v] t.2[i] 1 hn rfl
      · have h20 : (need t.2[i].1).1 = 1 := by rw [hn]
        rw [bF (beqF (by omega)), h20, bF (by rfl), dn1 i (by omega) h0, g2]
        obtain ⟨f1, f2⟩ := fb
        obtain ⟨q1, q2⟩ := cut_not (wide := wide) (by omega) f1 f2
        rcases ho with ho | ho
        · rw [ho, bT (by rfl), some_bind, cut_mod (by omega) q1, some_bind, q2]
          simp only [vop, ho, if_true]
        · have hb1 := hb ho
          rw [ho, bF (by rfl), bT (by rfl), some_bind, wru (by omega)]
          simp only [vop, ho]
          rfl
    · have h0 := hpos (by simp) e
      obtain ⟨j, hj, q2, v2, q3⟩ := l2From (vop wide s.2) t ht hen (i - 1) (i - 1) (by omega) (by omega)
      rw [show i - 1 + 1 = i by omega, e] at q3
      have q4 : st ++ [a] = stackAt (vop wide s.2) t.2 j ∧ [b] = [v2] := List.append_inj' (by rw [← q3]; simp) rfl
      obtain ⟨q5, q6⟩ := q4
      have hj0 : 0 < j := by
        rcases Nat.eq_zero_or_pos j with rfl | hj0
        · rw [stackAt_zero] at q5
          simp at q5
        · exact hj0
      obtain ⟨st1, v1, g1, g2⟩ := ih (j - 1) (by omega) (j - 1) (by omega) (by omega)
      rw [show j - 1 + 1 = j by omega, ← q5] at g1
      obtain ⟨st3, v3, g3, g4⟩ := ih (i - 1) (by omega) (i - 1) (by omega) (by omega)
      rw [show i - 1 + 1 = i by omega, e] at g3
      have r1 : st = st1 ∧ [a] = [v1] := List.append_inj' g1 rfl
      have r3 : st ++ [a] = st3 ∧ [b] = [v3] := List.append_inj' (by rw [← g3]; simp) rfl
      have r1' : v1 = a := by have := r1.2; simp at this; exact this.symm
      have r3' : v3 = b := by have := r3.2; simp at this; exact this.symm
      subst r1' r3'
      refine ⟨st, vop wide s.2 t.2[i] [v1, v3], ?_, ?_⟩
      · rw [e]
        exact sstep_of (vop wide s.2) st [v1, v3] t.2[i] 2 hn rfl
      · have h20 : (need t.2[i].1).1 = 2 := by rw [hn]
        rw [bF (beqF (by omega)), h20, bF (by rfl), bF (beqF (by omega)), bF (beqF (by omega)), dn1 i (by omega) h0, q2, some_bind, dn1 j (by omega) hj0, g2, some_bind, g4, some_bind, (ap_both wide t.2[i].1 v1 v3 hw fa fb ho).2.2.1, some_bind]
        rfl
/-- the value of a term in a state -/
noncomputable def valT (wide : Int) (s : List Int) (t : List DNode) : Int := (stackAt (vop wide s) t t.length).getD 0 0
/-- The value of a good term in a good state: the reference's and the program's are one; of a condition it is 0 or 1. -/
theorem value_both (wide : Int) (hw : 1 ≤ wide ∧ wide ≤ 62) (s : Bool × List Int) (hl : s.2.length ≤ 1000) (hs : ∀ v ∈ s.2, W5 wide v) (t : Bool × List DNode) (hx : WfN t.2) (hk : kindT wide (s.2.length : Int) t.2 ≠ 0) :
    W5 wide (valT wide s.2 t.2) ∧ (kindT wide (s.2.length : Int) t.2 = 2 → valT wide s.2 t.2 ≤ 1) ∧ spec_l2Value wide t (IntKind.i64.wrap ((t.2.length : Int) - 1)) s = some (valT wide s.2 t.2) ∧ impl_valueOf wide t s = some (valT wide s.2 t.2) := by
  obtain ⟨_, _, _, _, hl1, hl2⟩ := kindT_in hk
  have hne : t.2 ≠ [] := by intro h; rw [h] at hl1; simp at hl1
  obtain ⟨hf, _⟩ := kindT_last hk hne
  obtain ⟨ks, h3, h4⟩ := typedV_at wide hw s.2 hs t.2 hx hf t.2.length (Nat.le_refl _)
  rw [List.drop_length] at h3
  simp only [kfold, Option.some.injEq] at h3
  subst h3
  obtain ⟨st, v, h1, h2⟩ := l2Value wide hw s hl hs t hl2 hx hf t.2.length (t.2.length - 1) (by omega) (by omega)
  rw [show t.2.length - 1 + 1 = t.2.length by omega] at h1
  have h5 := h4.inv
  rw [h1] at h5
  rcases h5 with ⟨h5, _⟩ | ⟨ks', st', k', v', e1, e2, h6, h7, h8⟩
  · simp at h5
  · have hk0 : [] = ks' ∧ [kindT wide (s.2.length : Int) t.2] = [k'] := List.append_inj' (s₁ := []) e1 rfl
    have hv0 : st = st' ∧ [v] = [v'] := List.append_inj' e2 rfl
    obtain ⟨rfl, e3⟩ := hk0
    obtain ⟨rfl, e4⟩ := hv0
    simp only [List.cons.injEq, and_true] at e3 e4
    subst e3 e4
    have hlen := h6.len
    have hst : st = [] := List.eq_nil_of_length_eq_zero (by simpa using hlen.symm)
    subst hst
    have hval : valT wide s.2 t.2 = v := by unfold valT; rw [h1]; rfl
    rw [hval]
    refine ⟨h7, h8, ?_, ?_⟩
    · rw [dn1 t.2.length (by omega) (by omega), h2]
    · obtain ⟨b', g⟩ := valueOf_L0 wide hw s hl hs t (by omega) hx hf t.2.length 0 false (by omega) (by simp [stackAt_zero])
      rw [stackAt_zero, h1] at g
      rw [impl_valueOf_eq]
      have g' : impl_valueOf_L0 wide s (false, []) t (t.2.length : Int) 0 = some (b', [] ++ [v]) := g
      rw [g', some_bind, gT (by simp)]
      rfl
/-- The i-th variable's word in a state's number. -/
def wordAt (wide no : Int) (i : Nat) : Int := no / 2 ^ (wide.toNat * i) % (top wide + 1)
/-- the state of a number -/
def stateL (p : DProgram) (no : Int) : List Int := (List.range p.2.1.toNat).map (wordAt p.1 no)
/-- what is known of a small program's width and number of variables -/
structure Sml (p : DProgram) : Prop where
  w1 : 1 ≤ p.1
  w2 : p.1 ≤ 5
  v1 : 1 ≤ p.2.1
  v2 : p.2.1 ≤ 4
  a1 : p.1 * p.2.1 ≤ 5
  a2 : 1 ≤ p.1 * p.2.1
theorem Sml_of {p : DProgram} (h : isSmall p = true) : Sml p := by
  obtain ⟨_, h1, h2, h3, h4, h5, h6⟩ := isSmall_in h
  exact ⟨h1, h2, h3, h4, h5, h6⟩
theorem stateL_words {p : DProgram} (hp : Sml p) (no : Int) : ∀ v ∈ stateL p no, W5 p.1 v := by
  intro v hv
  obtain ⟨i, _, rfl⟩ := List.mem_map.1 hv
  exact mod_word ⟨hp.w1, by have := hp.w2; omega⟩
theorem stateL_length {p : DProgram} (hp : Sml p) (no : Int) : ((stateL p no).length : Int) = p.2.1 := by
  have := hp.v1
  simp [stateL]
  omega
theorem shl_one_i64 (i : Nat) (h : i < 63) : bShl .i64 1 (i : Int) = ((2 ^ i : Nat) : Int) := by
  unfold bShl
  have e : min ((i : Int)).toNat (IntKind.i64.bits) = i := by
    simp only [Int.toNat_natCast, IntKind.bits]
    omega
  rw [e, Int.one_mul]
  have h2 : (2 : Nat) ^ i < 2 ^ 63 := Nat.pow_lt_pow_right (by decide) h
  have h3 : ((2 ^ i : Nat) : Int) < ((2 ^ 63 : Nat) : Int) := by exact_mod_cast h2
  have h4 : (0 : Int) ≤ ((2 ^ i : Nat) : Int) := Int.natCast_nonneg _
  rw [wr]
  · simp
  · simp at h4 h3; omega
/-- the number of states -/
def manyS (p : DProgram) : Nat := 2 ^ (p.1 * p.2.1).toNat
theorem manyS_in {p : DProgram} (hp : Sml p) : 2 ≤ manyS p ∧ manyS p ≤ 32 := by
  have h1 := hp.a1
  have h2 := hp.a2
  unfold manyS
  have h3 : (2 : Nat) ^ 1 ≤ 2 ^ (p.1 * p.2.1).toNat := Nat.pow_le_pow_right (by decide) (by omega)
  have h4 : (2 : Nat) ^ (p.1 * p.2.1).toNat ≤ 2 ^ 5 := Nat.pow_le_pow_right (by decide) (by omega)
  simp at h3 h4
  omega
theorem l7Many {p : DProgram} (hp : Sml p) : spec_l7Many p = some (manyS p : Int) := by
  have h1 := hp.a1
  have h2 := hp.a2
  obtain ⟨n, hn⟩ := Int.eq_ofNat_of_zero_le (show 0 ≤ p.1 * p.2.1 by omega)
  rw [spec_l7Many_eq, manyS, hn]
  rw [hn] at h1
  rw [wr (by omega), wru (by omega), gF (by omega), shl_one_i64 n (by omega), Int.toNat_natCast]
theorem states_many {p : DProgram} (hp : Sml p) : impl_Program_states p = some (manyS p : Int) := by
  have h1 := hp.a1
  have h2 := hp.a2
  obtain ⟨n, hn⟩ := Int.eq_ofNat_of_zero_le (show 0 ≤ p.1 * p.2.1 by omega)
  rw [impl_Program_states_eq, manyS, hn]
  rw [hn] at h1
  rw [wr (by omega), gF (by omega), shl_one_i64 n (by omega), Int.toNat_natCast]
theorem area_nat {w i : Nat} (h : (w : Int) * (i : Int) ≤ 5) : w * i ≤ 5 := by
  rw [← Int.natCast_mul] at h
  omega
theorem step_facts {p : DProgram} (hp : Sml p) (no : Int) (i : Nat) (hi : (i : Int) < p.2.1) (hn : 0 ≤ no ∧ no < 1000) :
    ∃ a q : Int, 0 ≤ a ∧ IntKind.u64.wrap (IntKind.i64.wrap ((i : Int) * p.1)) = a ∧ IntKind.i64.wrap (p.1 * (i : Int)) = a ∧ bShr .i64 no a = q ∧ bShr .u64 (IntKind.u64.wrap no) a = q ∧ 0 ≤ q ∧ q ≤ no ∧ wordAt p.1 no i = q % (top p.1 + 1) := by
  have h1 : p.1 * (i : Int) ≤ p.1 * p.2.1 := Int.mul_le_mul_of_nonneg_left (by omega) (by have := hp.w1; omega)
  have h2 := hp.a1
  have h3 := hp.w1
  obtain ⟨w, hw⟩ := Int.eq_ofNat_of_zero_le (show 0 ≤ p.1 by omega)
  rw [hw] at h1 h2 ⊢
  have hwi := area_nat (w := w) (i := i) (by omega)
  have e1 : (w : Int) * (i : Int) = ((w * i : Nat) : Int) := by simp
  refine ⟨((w * i : Nat) : Int), no / 2 ^ (w * i), Int.natCast_nonneg _, ?_, ?_, ?_, ?_, Int.ediv_nonneg hn.1 (Int.le_of_lt (Int.pow_pos (by decide))), Int.ediv_le_self _ hn.1, rfl⟩
  · rw [Int.mul_comm, e1, wr (by omega), wru (by omega)]
  · rw [e1, wr (by omega)]
  · exact bShr_eq .i64 no _ (by simp only [IntKind.bits]; omega)
  · rw [wru (by omega)]
    exact bShr_eq .u64 no _ (by simp only [IntKind.bits]; omega)
theorem mask_i64 (w : Nat) (h : w ≤ 5) : IntKind.i64.wrap (bShl .i64 1 (w : Int) - 1) = 2 ^ w - 1 := by
  have hp : (2 : Nat) ^ w ≤ 2 ^ 5 := Nat.pow_le_pow_right (by decide) h
  have h0 : 0 < (2 : Nat) ^ w := Nat.two_pow_pos w
  rw [shl_one_i64 w (by omega), wr (by omega)]
  simp
theorem and_i64 (q : Int) (w : Nat) (hq : 0 ≤ q ∧ q < 1000) (h : w ≤ 5) : bAnd .i64 q (2 ^ w - 1) = q % 2 ^ w :=
  bits_mask .i64 63 (by decide) (fun n h0 h1 => wr ⟨by omega, by simpa using h1⟩) w (by omega) _ hq.1 (by simp; omega)
theorem l7Of {p : DProgram} (hp : Sml p) (no : Int) (hn : 0 ≤ no ∧ no < 1000) : spec_l7Of p no = some (false, stateL p no) := by
  obtain ⟨h1, h2, h3, h4, h5, h6⟩ := hp
  have hp : Sml p := ⟨h1, h2, h3, h4, h5, h6⟩
  have hlim := lim_eq
  obtain ⟨v, hv⟩ := Int.eq_ofNat_of_zero_le (show 0 ≤ p.2.1 by omega)
  obtain ⟨w, hw⟩ := Int.eq_ofNat_of_zero_le (show 0 ≤ p.1 by omega)
  have key : ∀ (d i : Nat) (b : Bool) (out : List Int), i + d = v → out.length = i → spec_l7Of_L0 no p (b, out) (i : Int) = some ((if d = 0 then b else false), out ++ (List.range' i d).map (wordAt p.1 no)) := by
    intro d
    induction d with
    | zero =>
      intro i b out hi ho
      rw [spec_l7Of_L0_eq, gF (by omega)]
      simp
    | succ d ih =>
      intro i b out hi ho
      obtain ⟨a, q, p0, f1, f2, f3, f4, q0, q1, fw⟩ := step_facts hp no i (by omega) hn
      have e3 := mask_i64 w (by omega)
      have e5 := and_i64 q w ⟨q0, by omega⟩ (by omega)
      have e6 : ((2 : Int) ^ w) = top p.1 + 1 := by rw [hw, top_pow]; simp
      have hu := (mod_word (wide := p.1) (q := q) (by omega)).u64 (wide := p.1) (by omega)
      rw [spec_l7Of_L0_eq, gT (by omega), f1, gF (by omega), wru (by omega), gF (by omega), hw, e3, f3, e5, e6, wru hu, gT (by simp; omega), up1 i (by omega), ih (i + 1) _ _ (by omega) (by simp; omega), ← fw, some_bind]
      simp [List.range'_succ, hw]
  have := key v 0 true [] (by omega) rfl
  rw [spec_l7Of_eq, stateL, List.range_eq_range', hv, Int.toNat_natCast]
  have this' : spec_l7Of_L0 no p (true, []) 0 = _ := this
  rw [this', some_bind, if_neg (by omega)]
  rfl
theorem stateOf {p : DProgram} (hp : Sml p) (no : Int) (hn : 0 ≤ no ∧ no < 1000) : impl_Program_stateOf p no = some (false, stateL p no) := by
  obtain ⟨h1, h2, h3, h4, h5, h6⟩ := hp
  have hp : Sml p := ⟨h1, h2, h3, h4, h5, h6⟩
  have hlim := lim_eq
  obtain ⟨v, hv⟩ := Int.eq_ofNat_of_zero_le (show 0 ≤ p.2.1 by omega)
  have key : ∀ (d i : Nat) (out : List Int), i + d = v → out.length = i → impl_Program_stateOf_L0 no p (false, out) p.2.1 (i : Int) = some (false, out ++ (List.range' i d).map (wordAt p.1 no)) := by
    intro d
    induction d with
    | zero =>
      intro i out hi ho
      rw [impl_Program_stateOf_L0_eq, gF (by omega)]
      simp
    | succ d ih =>
      intro i out hi ho
      obtain ⟨a, q, p0, f1, f2, f3, f4, q0, q1, fw⟩ := step_facts hp no i (by omega) hn
      rw [impl_Program_stateOf_L0_eq, gT (by omega), f2, gF (by omega), mask_top p.1 (by omega), some_bind, f4, and_top (wide := p.1) (by omega) ⟨q0, by omega⟩, gT (by simp; omega), up1 i (by omega), Bool.and_false, ih (i + 1) _ (by omega) (by simp; omega), ← fw, some_bind]
      simp [List.range'_succ]
  have := key v 0 [] (by omega) rfl
  rw [impl_Program_stateOf_eq, stateL, List.range_eq_range', hv, Int.toNat_natCast]
  rw [hv] at this
  have this' : impl_Program_stateOf_L0 no p (false, []) (v : Int) 0 = _ := this
  rw [this', some_bind]
  rfl
/-- Does a condition hold in a state? -/
noncomputable def holdsS (p : DProgram) (t : List DNode) (s : List Int) : Bool := valT p.1 s t == 1
/-- Does a condition hold in the state of a number? -/
noncomputable def holdsB (p : DProgram) (t : List DNode) (no : Int) : Bool := holdsS p t (stateL p no)
theorem holds_both {p : DProgram} (hp : Sml p) (t : Bool × List DNode) (hx : WfN t.2) (hk : kindT p.1 p.2.1 t.2 ≠ 0) (b : Bool) (s : List Int) (hl : (s.length : Int) = p.2.1) (hs : ∀ v ∈ s, W5 p.1 v) :
    spec_l7Holds p t (b, s) = some (holdsS p t.2 s) ∧ impl_Program_holds p t (b, s) = some (holdsS p t.2 s) := by
  have h1 := hp.w1
  have h2 := hp.w2
  have h3 := hp.v2
  obtain ⟨_, _, h4, h5⟩ := value_both p.1 (by omega) (b, s) (by simp only; omega) hs t hx (by rw [show (((b, s) : Bool × List Int).2.length : Int) = p.2.1 from hl]; exact hk)
  exact ⟨by rw [spec_l7Holds_eq, h4]; rfl, by rw [impl_Program_holds_eq, h5]; rfl⟩
theorem holds_at {p : DProgram} (hp : Sml p) (t : Bool × List DNode) (hx : WfN t.2) (hk : kindT p.1 p.2.1 t.2 ≠ 0) (b : Bool) (no : Int) :
    spec_l7Holds p t (b, stateL p no) = some (holdsB p t.2 no) ∧ impl_Program_holds p t (b, stateL p no) = some (holdsB p t.2 no) :=
  holds_both hp t hx hk b _ (stateL_length hp no) (stateL_words hp no)
theorem holdsAt_spec {p : DProgram} (hp : Sml p) (t : Bool × List DNode) (hx : WfN t.2) (hk : kindT p.1 p.2.1 t.2 ≠ 0) (b : Bool) (no : Int) :
    spec_l7Holds p t (b, stateL p no) = some (holdsB p t.2 no) := by
  have h1 := hp.w1
  have h2 := hp.w2
  have h3 := hp.v2
  have hl := stateL_length hp no
  obtain ⟨_, _, h4, _⟩ := value_both p.1 (by omega) (b, stateL p no) (by simp only; omega) (stateL_words hp no) t hx (by rw [show (((b, stateL p no) : Bool × List Int).2.length : Int) = p.2.1 from hl]; exact hk)
  rw [spec_l7Holds_eq, h4]; rfl
/-- The numbers from i on, d of them, at which a condition holds. -/
noncomputable def thoseL (p : DProgram) (t : List DNode) (i d : Nat) : List Int := ((List.range' i d).map Int.ofNat).filter (holdsB p t)
theorem thoseL_succ (p : DProgram) (t : List DNode) (i d : Nat) : thoseL p t i (d + 1) = (if holdsB p t (i : Int) = true then [(i : Int)] else []) ++ thoseL p t (i + 1) d := by
  simp only [thoseL, List.range'_succ, List.map_cons, List.filter_cons]
  cases hh : holdsB p t (i : Int) <;> simp [hh]
theorem mem_thoseL {p : DProgram} {t : List DNode} {n : Nat} {x : Int} : x ∈ thoseL p t 0 n ↔ (0 ≤ x ∧ x < n) ∧ holdsB p t x = true := by
  simp only [thoseL, List.mem_filter, List.mem_map, List.mem_range'_1]
  constructor
  · rintro ⟨⟨a, h1, rfl⟩, h2⟩
    exact ⟨⟨Int.natCast_nonneg _, by have := h1.2; simp; omega⟩, h2⟩
  · rintro ⟨⟨h1, h2⟩, h3⟩
    exact ⟨⟨x.toNat, by omega, Int.toNat_of_nonneg h1⟩, h3⟩
theorem thoseL_length (p : DProgram) (t : List DNode) (i d : Nat) : (thoseL p t i d).length ≤ d := by
  refine Nat.le_trans (List.length_filter_le _ _) ?_
  simp
theorem those_L0 {p : DProgram} (hp : Sml p) (t : Bool × List DNode) (hx : WfN t.2) (hk : kindT p.1 p.2.1 t.2 ≠ 0) :
    ∀ (d i : Nat) (b : Bool) (out : List Int), i + d = manyS p → out.length ≤ i → ∃ b', spec_l8Those_L0 t p (b, out) (i : Int) = some (b', out ++ thoseL p t.2 i d) := by
  have hm := manyS_in hp
  have hlim := lim_eq
  intro d
  induction d with
  | zero =>
    intro i b out hi ho
    rw [spec_l8Those_L0_eq, l7Many hp, some_bind, gF (by omega)]
    exact ⟨b, by simp [thoseL]⟩
  | succ d ih =>
    intro i b out hi ho
    rw [spec_l8Those_L0_eq, l7Many hp, some_bind, gT (by omega), l7Of hp _ (by omega), some_bind, holdsAt_spec hp t hx hk _ _, some_bind, thoseL_succ, up1 i (by omega)]
    cases hh : holdsB p t.2 (i : Int) with
    | true =>
      obtain ⟨b', g⟩ := ih (i + 1) (b && false) (out ++ [(i : Int)]) (by omega) (by simp; omega)
      exact ⟨b', by rw [cond_true, gT (by simp; omega), g]; simp⟩
    | false =>
      obtain ⟨b', g⟩ := ih (i + 1) b out (by omega) (by omega)
      exact ⟨b', by rw [cond_false, g]; simp⟩
theorem l8Those {p : DProgram} (hp : Sml p) (t : Bool × List DNode) (hx : WfN t.2) (hk : kindT p.1 p.2.1 t.2 ≠ 0) : ∃ b, spec_l8Those p t = some (b, thoseL p t.2 0 (manyS p)) := by
  obtain ⟨b, g⟩ := those_L0 hp t hx hk (manyS p) 0 true [] (by omega) (by simp)
  have g' : spec_l8Those_L0 t p (true, []) 0 = _ := g
  exact ⟨b, by rw [spec_l8Those_eq, g']; rfl⟩
theorem any_loop {α ρ : Type} (l : List α) (q : α → Bool) (y : ρ) (F : Int → Option (ρ ⊕ Unit))
    (hs : ∀ (i : Nat) (h : i < l.length), F (i : Int) = bif q l[i] then some (.inl y) else F ((i + 1 : Nat) : Int)) (he : F (l.length : Int) = some (.inr ())) : F 0 = some (bif l.any q then .inl y else .inr ()) := by
  have := loop_all l (fun x => !q x) (β := ρ ⊕ Unit) (.inr ()) (.inl y) F (fun i h => by rw [hs i h]; cases q l[i] <;> rfl) he
  rw [this, List.any_eq_not_all_not]
  cases (l.all fun x => !q x) <;> rfl
theorem l1Has (l : Bool × List Int) (n : Int) (hl : l.2.length ≤ 1048576) : spec_l1Has l n = some (l.2.any fun x => x == n) := by
  rw [spec_l1Has_eq, any_loop l.2 (fun x => x == n) true (fun i => spec_l1Has_L0 n l (l.2.length : Int) i) (fun i h => by
    rw [spec_l1Has_L0_eq, gT (by omega), gT (by omega), gT (by omega), getD_at l.2 _ i h, up1 i (by omega), bind_id]) (by rw [spec_l1Has_L0_eq, gF (by omega)]), some_bind]
  cases (l.2.any fun x => x == n) <;> rfl
theorem all_loop {α : Type} (l : List α) (q : α → Bool) (F : Int → Option (Bool ⊕ Unit))
    (hs : ∀ (i : Nat) (h : i < l.length), F (i : Int) = bif !q l[i] then some (.inl false) else F ((i + 1 : Nat) : Int)) (he : F (l.length : Int) = some (.inr ())) : F 0 = some (if l.all q = true then .inr () else .inl false) := by
  have := loop_all l q (β := Bool ⊕ Unit) (.inr ()) (.inl false) F (fun i h => by rw [hs i h]; cases q l[i] <;> rfl) he
  rw [this]
  cases l.all q <;> rfl
theorem l7Meet (a b : Bool × List Int) (ha : a.2.length ≤ 1048576) (hb : b.2.length ≤ 1048576) : spec_l7Meet a b = some (a.2.any fun x => b.2.any fun y => y == x) := by
  rw [spec_l7Meet_eq, any_loop a.2 (fun x => b.2.any fun y => y == x) true (fun i => spec_l7Meet_L0 b a (a.2.length : Int) i) (fun i h => by
    rw [spec_l7Meet_L0_eq, gT (by omega), gT (by omega), gT (by omega), getD_at a.2 _ i h, up1 i (by omega), bind_id, l1Has b _ hb, some_bind]) (by rw [spec_l7Meet_L0_eq, gF (by omega)]), some_bind]
  cases (a.2.any fun x => b.2.any fun y => y == x) <;> rfl
theorem getD_nat {α : Type} (l : List α) (z : α) (i : Nat) : l.getD (Int.toNat (i : Int)) z = l.getD i z := by rw [Int.toNat_natCast]
/-- Are the classes of a list numbered in the order of their first states? -/
def sightL : Int → List Int → Bool
  | _, [] => true
  | c, x :: l => decide (0 ≤ x ∧ x ≤ c) && sightL (if x = c then c + 1 else c) l
/-- Is a view of a program's states good? -/
def goodSight (p : DProgram) (v : List Int) : Bool := isSmall p && (decide ((v.length : Int) = manyS p) && sightL 0 v)
theorem sightL_in (l : List Int) : ∀ c : Int, sightL c l = true → ∀ x ∈ l, 0 ≤ x ∧ x ≤ c + l.length := by
  induction l with
  | nil => intro c _ x hx; simp at hx
  | cons y l ih =>
    intro c h x hx
    simp only [sightL, Bool.and_eq_true, decide_eq_true_eq] at h
    simp only [List.length_cons]
    rcases List.mem_cons.1 hx with rfl | hx
    · omega
    · have := ih _ h.2 x hx
      split at this <;> omega
theorem goodSight_L0 (v : DSight) (hl : v.2.length ≤ 1048576) (d : Nat) : ∀ (i : Nat) (c : Int), i + d = v.2.length → 0 ≤ c → c ≤ i → spec_GoodSight_L0 c v (v.2.length : Int) (i : Int) = some (bif sightL c (v.2.drop i) then .inr () else .inl false) := by
  induction d with
  | zero =>
    intro i c hi h0 hc
    rw [spec_GoodSight_L0_eq, gF (by omega), List.drop_of_length_le (by omega)]
    rfl
  | succ d ih =>
    intro i c hi h0 hc
    have hlt : i < v.2.length := by omega
    rw [spec_GoodSight_L0_eq, gT (by omega), gT (by omega), gT (by omega), getD_at v.2 _ i hlt, l1In_eq, some_bind, up1 i (by omega), bind_id, bind_id, List.drop_eq_getElem_cons hlt, sightL]
    by_cases c1 : 0 ≤ v.2[i] ∧ v.2[i] ≤ c
    · rw [decide_eq_true c1, Bool.not_true, cond_false, Bool.true_and]
      by_cases c2 : v.2[i] = c
      · rw [bT (by simpa using c2), if_pos c2, wr (by omega), ih (i + 1) _ (by omega) (by omega) (by omega)]
      · rw [bF (beqF c2), if_neg c2, ih (i + 1) _ (by omega) (by omega) (by omega)]
    · rw [decide_eq_false c1]
      rfl
theorem isSight_L0 (n : Int) (v : DSight) (hl : v.2.length ≤ 1048576) (d : Nat) : ∀ (i : Nat) (c : Int), i + d = v.2.length → 0 ≤ c → c ≤ i → impl_isSight_L0 n v c v (v.2.length : Int) (i : Int) = some (bif sightL c (v.2.drop i) then .inr () else .inl false) := by
  induction d with
  | zero =>
    intro i c hi h0 hc
    rw [impl_isSight_L0_eq, gF (by omega), List.drop_of_length_le (by omega)]
    rfl
  | succ d ih =>
    intro i c hi h0 hc
    have hlt : i < v.2.length := by omega
    rw [impl_isSight_L0_eq, gT (by omega), gT (by omega), gT (by omega), getD_at v.2 _ i hlt, up1 i (by omega), bind_id, bind_id, List.drop_eq_getElem_cons hlt, sightL]
    by_cases c3 : v.2[i] < 0
    · rw [gT c3, decide_eq_false (by omega)]
      rfl
    · rw [gF c3]
      by_cases c4 : v.2[i] > c
      · rw [gT c4, decide_eq_false (by omega)]
        rfl
      · rw [gF c4, decide_eq_true (by omega), Bool.true_and]
        by_cases c2 : v.2[i] = c
        · rw [bT (by simpa using c2), if_pos c2, wr (by omega), ih (i + 1) _ (by omega) (by omega) (by omega)]
        · rw [bF (beqF c2), if_neg c2, ih (i + 1) _ (by omega) (by omega) (by omega)]
theorem spec_goodSight (p : DProgram) (hs : SmProgram p) (hw : WfP p) (v : DSight) (hl : v.2.length ≤ 1048576) : spec_GoodSight p v = some (goodSight p v.2) := by
  rw [spec_GoodSight_eq, small_l7 p hs hw, some_bind, goodSight]
  cases h0 : isSmall p with
  | false => rfl
  | true =>
    have hp := Sml_of h0
    rw [Bool.not_true, cond_false, l7Many hp, some_bind, Bool.true_and]
    by_cases c1 : (v.2.length : Int) = manyS p
    · have h := goodSight_L0 v hl v.2.length 0 0 (by omega) (by omega) (by omega)
      have h' : spec_GoodSight_L0 0 v (v.2.length : Int) 0 = _ := h
      rw [bF (by simp [c1]), h', some_bind, decide_eq_true c1, Bool.true_and, List.drop_zero]
      cases sightL 0 v.2 <;> rfl
    · rw [bT (by simpa using c1), decide_eq_false c1, Bool.false_and]
theorem impl_goodSight (p : DProgram) (hs : SmProgram p) (v : DSight) (hl : v.2.length ≤ 1048576) : impl_GoodSight p v = some (goodSight p v.2) := by
  rw [impl_GoodSight_eq, small_impl p hs, some_bind, goodSight]
  cases h0 : isSmall p with
  | false => rfl
  | true =>
    have hp := Sml_of h0
    have h := isSight_L0 (manyS p) v hl v.2.length 0 0 (by omega) (by omega) (by omega)
    have h' : impl_isSight_L0 (manyS p) v 0 v (v.2.length : Int) 0 = _ := h
    rw [cond_true, states_many hp, some_bind, impl_isSight_eq, h', some_bind, Bool.true_and, List.drop_zero]
    cases sightL 0 v.2 with
    | false => rw [Bool.and_false]; rfl
    | true => rw [Bool.and_true]; rfl
theorem goodSight_in {p : DProgram} {v : List Int} (h : goodSight p v = true) : Sml p ∧ v.length = manyS p ∧ ∀ x ∈ v, 0 ≤ x ∧ x ≤ 32 := by
  simp only [goodSight, Bool.and_eq_true, decide_eq_true_eq] at h
  have hp := Sml_of h.1
  have hm := manyS_in hp
  exact ⟨hp, by omega, fun x hx => by have := sightL_in v 0 h.2.2 x hx; omega⟩
theorem l1All (l : Bool × List Int) (lo hi : Int) (hl : l.2.length ≤ 1048576) : spec_l1All l lo hi = some (l.2.all fun x => decide (lo ≤ x ∧ x ≤ hi)) := by
  rw [spec_l1All_eq, all_loop l.2 (fun x => decide (lo ≤ x ∧ x ≤ hi)) (fun i => spec_l1All_L0 lo hi l (l.2.length : Int) i) (fun i h => by
    rw [spec_l1All_L0_eq, gT (by omega), gT (by omega), gT (by omega), getD_at l.2 _ i h, up1 i (by omega), bind_id, l1In_eq, some_bind]) (by rw [spec_l1All_L0_eq, gF (by omega)]), some_bind]
  cases (l.2.all fun x => decide (lo ≤ x ∧ x ≤ hi)) <;> rfl
theorem szSight (a : DSight) (left : Int) (h0 : 0 ≤ left ∧ left ≤ 1048576) (hl : a.2.length ≤ big) : laws_szSight a left = some (if (a.2.length : Int) ≤ left then left - a.2.length else -1) := by
  rw [laws_szSight_eq, szIntS a left h0 hl, some_bind]
  by_cases h : (a.2.length : Int) ≤ left
  · rw [if_pos h, gF (by omega)]
  · rw [if_neg h, gT (by omega)]
theorem toSight (a : DSight) (hl : a.2.length ≤ 1048576) : laws_toSight a = some (false, a.2) := by
  rw [laws_toSight_eq, toIntS a hl, some_bind]
theorem eqSight_same (f g : Bool) (l : List Int) (hl : l.length ≤ 1048576) : laws_eqSight (f, l) (g, l) = some true := by
  rw [laws_eqSight_eq, eqIntS_same f g l hl]
  rfl
theorem markSight (b : Bool) (x : List Int) (k : Int) (hl : x.length ≤ 1048576) (h0 : 0 ≤ k) (hk : k + x.length ≤ 4000000000000000000) : laws_markSight (b, x) k = some ((b, countL k x.length), k + x.length) := by
  rw [laws_markSight_eq, markIntS b x k hl h0 hk, some_bind]
/-- the number of classes of a view -/
def manyC (v : List Int) : Int := v.foldl (fun m x => if x ≥ m then x + 1 else m) 0
theorem manyC_max (l : List Int) : ∀ m : Int, l.foldl (fun m x => if x ≥ m then x + 1 else m) (m + 1) = l.foldl (fun m x => if m < x then x else m) m + 1 := by
  induction l with
  | nil => intro m; rfl
  | cons x l ih =>
    intro m
    simp only [List.foldl_cons]
    by_cases h : m < x
    · rw [if_pos (by omega), if_pos h, ih x]
    · rw [if_neg (by omega), if_neg h, ih m]
theorem l15Many (v : DSight) (hl : v.2.length ≤ 1048576) (hin : ∀ x ∈ v.2, 0 ≤ x ∧ x ≤ 32) : spec_l15Many v = some (manyC v.2) := by
  have := loop_fold v.2 (fun m x => if x ≥ m then x + 1 else m) (fun m : Int => m) (fun m i => spec_l15Many_L0 m v (v.2.length : Int) i) (fun _ _ => True) (fun i h s _ => by
    have hx := hin _ (List.getElem_mem h)
    refine ⟨?_, trivial⟩
    rw [spec_l15Many_L0_eq, gT (by omega), gT (by omega), gT (by omega), getD_at v.2 _ i h, up1 i (by omega), bind_id, bind_id, wr (by omega)]
    by_cases c : v.2[i] ≥ s
    · rw [gT c, if_pos c]
    · rw [gF c, if_neg c]) (fun s _ => by rw [spec_l15Many_L0_eq, gF (by omega)]) 0 trivial
  rw [spec_l15Many_eq, this, some_bind, manyC]
theorem sightClasses (v : DSight) (hl : v.2.length ≤ 1048576) (h0 : 0 < v.2.length) (hin : ∀ x ∈ v.2, 0 ≤ x ∧ x ≤ 32) : impl_Sight_classes v = some (manyC v.2) := by
  obtain ⟨b, w⟩ := v
  match w, h0 with
  | x :: w, _ =>
    have key : ∀ (d i : Nat) (m : Int), i + d = (x :: w).length → 0 ≤ m → m ≤ 32 → ∃ r, slices_Max_int_L0 (b, x :: w) m (i : Int) = some r ∧ r = ((x :: w).drop i).foldl (fun m x => if m < x then x else m) m ∧ 0 ≤ r ∧ r ≤ 32 := by
      intro d
      induction d with
      | zero =>
        intro i m hi h0 h1
        rw [slices_Max_int_L0_eq, gF (by simp only; omega), List.drop_of_length_le (by omega)]
        exact ⟨m, rfl, rfl, h0, h1⟩
      | succ d ih =>
        intro i m hi h0 h1
        have hlt : i < (x :: w).length := by omega
        have hx := hin _ (List.getElem_mem hlt)
        rw [slices_Max_int_L0_eq, gT (by simp only; omega), gT (by omega), gT (by simp only; omega), getD_at (x :: w) _ i hlt, up1 i (by simp only at hl; omega), bind_id, List.drop_eq_getElem_cons hlt, List.foldl_cons]
        by_cases c : m < (x :: w)[i]
        · rw [decide_eq_true c, cond_true, if_pos c]
          exact ih (i + 1) _ (by omega) (by omega) (by omega)
        · rw [decide_eq_false c, cond_false, if_neg c]
          exact ih (i + 1) _ (by omega) (by omega) (by omega)
    have hx := hin x List.mem_cons_self
    obtain ⟨r, e, e2, r0, r1⟩ := key w.length 1 x (by simp; omega) hx.1 hx.2
    have e' : slices_Max_int_L0 (b, x :: w) ((x :: w).getD 0 0) 1 = some r := e
    rw [impl_Sight_classes_eq, slices_Max_int_eq, gF (by simp only [List.length_cons]; omega), gT (by simp only [List.length_cons]; omega), e', some_bind, some_bind, wr (by omega), manyC, List.foldl_cons, if_pos hx.1, manyC_max, e2]
    rfl
theorem manyC_in (v : List Int) (hin : ∀ x ∈ v, 0 ≤ x ∧ x ≤ 32) : 0 ≤ manyC v ∧ manyC v ≤ 33 := by
  have key : ∀ (l : List Int) (m : Int), (∀ x ∈ l, 0 ≤ x ∧ x ≤ 32) → 0 ≤ m → m ≤ 33 → 0 ≤ l.foldl (fun m x => if x ≥ m then x + 1 else m) m ∧ l.foldl (fun m x => if x ≥ m then x + 1 else m) m ≤ 33 := by
    intro l
    induction l with
    | nil => intro m _ h0 h1; exact ⟨h0, h1⟩
    | cons x l ih =>
      intro m hx h0 h1
      have h2 := hx x List.mem_cons_self
      rw [List.foldl_cons]
      refine ih _ (fun y hy => hx y (List.mem_cons_of_mem _ hy)) ?_ ?_ <;> split <;> omega
  exact key v 0 hin (by omega) (by omega)
theorem l19Classes (v : DSight) (hv : v.2.length ≤ 1048576) (hin : ∀ x ∈ v.2, 0 ≤ x ∧ x ≤ 32) (l : Bool × List Int) (hl : l.2.length ≤ 1048576) : spec_l19Classes v l = some (l.2.all fun x => decide (0 ≤ x ∧ x ≤ manyC v.2 - 1)) := by
  have := manyC_in v.2 hin
  rw [spec_l19Classes_eq, l15Many v hv hin, some_bind, wr (by omega), l1All l _ _ hl, some_bind]
theorem contains_class (l : Bool × List Int) (m : Int) (hl : l.2.length ≤ 1048576) : slices_ContainsFunc_int_by_isClassPath_1 l (m, ()) = some (l.2.any fun x => !decide (0 ≤ x ∧ x ≤ m - 1)) := by
  have h := loop_find l.2 (fun x => !decide (0 ≤ x ∧ x ≤ m - 1)) (fun i => slices_IndexFunc_int_by_isClassPath_1_L0 l (m, ()) (l.2.length : Int) i) (fun i h => by
    rw [slices_IndexFunc_int_by_isClassPath_1_L0_eq, gT (by omega), gT (by omega), gT (by omega), getD_at l.2 _ i h, impl_isClassPath_1_eq, up1 i (by omega), bind_id]
    by_cases c1 : l.2[i] < 0
    · rw [gT c1, some_bind, decide_eq_false (by omega)]; rfl
    · rw [gF c1, some_bind]
      by_cases c2 : l.2[i] ≥ m
      · rw [decide_eq_true c2, decide_eq_false (by omega)]; rfl
      · rw [decide_eq_false c2, decide_eq_true (by omega)]; rfl) (by rw [slices_IndexFunc_int_by_isClassPath_1_L0_eq, gF (by omega)])
  rw [slices_ContainsFunc_int_by_isClassPath_1_eq, slices_IndexFunc_int_by_isClassPath_1_eq]
  exact contains_of h
/-- Is a list of classes a path of a view? -/
def classPath (p : DProgram) (v l : List Int) (most : Int) : Bool := goodSight p v && (decide (1 ≤ (l.length : Int) ∧ (l.length : Int) ≤ most) && l.all fun x => decide (0 ≤ x ∧ x ≤ manyC v - 1))
theorem isClassPath (p : DProgram) (hs : SmProgram p) (v : DSight) (hv : v.2.length ≤ 1048576) (l : Bool × List Int) (hl : l.2.length ≤ 1048576) (most : Int) : impl_isClassPath p v l most = some (classPath p v.2 l.2 most) := by
  rw [impl_isClassPath_eq, impl_goodSight p hs v hv, some_bind, classPath]
  cases h0 : goodSight p v.2 with
  | false => rfl
  | true =>
    obtain ⟨hp, hv2, hvi⟩ := goodSight_in h0
    have hm := manyS_in hp
    rw [Bool.not_true, cond_false, Bool.true_and]
    by_cases c1 : (l.2.length : Int) < 1
    · rw [gT c1, decide_eq_false (by omega), Bool.false_and]
    · by_cases c2 : (l.2.length : Int) > most
      · rw [gF c1, gT c2, decide_eq_false (by omega), Bool.false_and]
      · rw [gF c1, gF c2, sightClasses v hv (by omega) hvi, some_bind, contains_class l _ hl, some_bind, decide_eq_true (by omega), Bool.true_and, List.all_eq_not_any_not]
/-- a number put into its place in a rising list, unless it is there -/
def insL (n : Int) : List Int → List Int
  | [] => [n]
  | x :: l => if x < n then x :: insL n l else if x = n then x :: l else n :: x :: l
def Rising (l : List Int) : Prop := l.Pairwise (· < ·)
theorem insL_mem (n : Int) (l : List Int) : ∀ x, x ∈ insL n l ↔ x = n ∨ x ∈ l := by
  induction l with
  | nil => intro x; simp [insL]
  | cons y l ih =>
    intro x
    unfold insL
    split
    · rw [List.mem_cons, ih, List.mem_cons]
      constructor
      · rintro (h | h | h)
        · exact .inr (.inl h)
        · exact .inl h
        · exact .inr (.inr h)
      · rintro (h | h | h)
        · exact .inr (.inl h)
        · exact .inl h
        · exact .inr (.inr h)
    · split
      · rename_i h1 h2
        constructor
        · exact .inr
        · rintro (h | h)
          · rw [h, ← h2]; exact List.mem_cons_self
          · exact h
      · rw [List.mem_cons]
theorem insL_rising (n : Int) (l : List Int) (h : Rising l) : Rising (insL n l) := by
  induction l with
  | nil => exact List.pairwise_singleton _ _
  | cons y l ih =>
    obtain ⟨h1, h2⟩ := List.pairwise_cons.1 h
    unfold insL
    split
    · rename_i c
      refine List.pairwise_cons.2 ⟨fun x hx => ?_, ih h2⟩
      rcases (insL_mem n l x).1 hx with rfl | hx
      · exact c
      · exact h1 x hx
    · split
      · exact h
      · rename_i c1 c2
        refine List.pairwise_cons.2 ⟨fun x hx => ?_, h⟩
        rcases List.mem_cons.1 hx with rfl | hx
        · omega
        · have := h1 x hx
          omega
/-- rising lists with the same members are the same -/
theorem rising_ext : ∀ (a b : List Int), Rising a → Rising b → (∀ x, x ∈ a ↔ x ∈ b) → a = b := by
  intro a
  induction a with
  | nil =>
    intro b _ _ h
    cases b with
    | nil => rfl
    | cons y b => exact absurd ((h y).2 List.mem_cons_self) (by simp)
  | cons x a ih =>
    intro b ha hb h
    cases b with
    | nil => exact absurd ((h x).1 List.mem_cons_self) (by simp)
    | cons y b =>
      obtain ⟨a1, a2⟩ := List.pairwise_cons.1 ha
      obtain ⟨b1, b2⟩ := List.pairwise_cons.1 hb
      have hxy : x = y := by
        have h1 := (h x).1 List.mem_cons_self
        have h2 := (h y).2 List.mem_cons_self
        rcases List.mem_cons.1 h1 with e | h1
        · exact e
        · rcases List.mem_cons.1 h2 with e | h2
          · exact e.symm
          · have := b1 x h1
            have := a1 y h2
            omega
      subst hxy
      rw [ih b a2 b2 (fun z => ?_)]
      constructor
      · intro hz
        rcases List.mem_cons.1 ((h z).1 (List.mem_cons_of_mem _ hz)) with e | hz2
        · have := a1 z hz
          omega
        · exact hz2
      · intro hz
        rcases List.mem_cons.1 ((h z).2 (List.mem_cons_of_mem _ hz)) with e | hz2
        · have := b1 z hz
          omega
        · exact hz2
/-- the numbers of a list, rising, each once -/
def sortL (l : List Int) : List Int := l.foldl (fun o n => insL n o) []
theorem foldl_ins (l : List Int) : ∀ o, Rising o → Rising (l.foldl (fun o n => insL n o) o) ∧ ∀ x, x ∈ l.foldl (fun o n => insL n o) o ↔ x ∈ o ∨ x ∈ l := by
  induction l with
  | nil => intro o h; exact ⟨h, by simp⟩
  | cons n l ih =>
    intro o h
    obtain ⟨q1, q2⟩ := ih (insL n o) (insL_rising n o h)
    refine ⟨q1, fun x => ?_⟩
    rw [List.foldl_cons, q2, insL_mem, List.mem_cons]
    constructor
    · rintro ((h | h) | h)
      · exact .inr (.inl h)
      · exact .inl h
      · exact .inr (.inr h)
    · rintro (h | h | h)
      · exact .inl (.inr h)
      · exact .inl (.inl h)
      · exact .inr h
theorem sortL_rising (l : List Int) : Rising (sortL l) := (foldl_ins l [] List.Pairwise.nil).1
theorem sortL_mem (l : List Int) : ∀ x, x ∈ sortL l ↔ x ∈ l := by
  intro x
  rw [sortL, (foldl_ins l [] List.Pairwise.nil).2]
  simp
/-- a rising list of numbers from 0 up to n is the numbers below n that are in it -/
theorem rising_filter (a : List Int) (h : Rising a) (n : Nat) (hn : ∀ x ∈ a, 0 ≤ x ∧ x < (n : Int)) (q : Nat → Bool) (hq : ∀ i < n, q i = decide ((i : Int) ∈ a)) : a = ((List.range n).filter q).map Int.ofNat := by
  refine rising_ext _ _ h ?_ (fun x => ?_)
  · rw [Rising, List.pairwise_map]
    refine List.Pairwise.imp (fun {a b} (hab : a < b) => ?_) (List.Pairwise.filter q List.pairwise_lt_range)
    show (a : Int) < (b : Int)
    omega
  · rw [List.mem_map]
    constructor
    · intro hx
      have := hn x hx
      refine ⟨x.toNat, ?_, by simp; omega⟩
      rw [List.mem_filter, List.mem_range]
      refine ⟨by omega, ?_⟩
      rw [hq _ (by omega), decide_eq_true_eq, Int.toNat_of_nonneg (by omega)]
      exact hx
    · rintro ⟨i, hi, rfl⟩
      rw [List.mem_filter, List.mem_range] at hi
      rw [hq _ hi.1, decide_eq_true_eq] at hi
      exact hi.2
theorem Rising_length {a : List Int} (h : Rising a) {n : Nat} (hn : ∀ x ∈ a, 0 ≤ x ∧ x < (n : Int)) : a.length ≤ n := by
  rw [rising_filter a h n hn (fun i => decide ((i : Int) ∈ a)) (fun _ _ => rfl), List.length_map]
  have := List.length_filter_le (fun i : Nat => decide ((i : Int) ∈ a)) (List.range n)
  simpa using this
def under (n : Int) (l : List Int) : Nat := (l.takeWhile fun x => decide (x < n)).length
theorem under_le (n : Int) (l : List Int) : under n l ≤ l.length := by
  unfold under
  exact (List.takeWhile_sublist _).length_le
theorem insL_eq (n : Int) (l : List Int) : insL n l = if under n l < l.length ∧ l.getD (under n l) 0 = n then l else l.take (under n l) ++ n :: l.drop (under n l) := by
  induction l with
  | nil => rfl
  | cons x l ih =>
    unfold insL
    by_cases h : x < n
    · have e : under n (x :: l) = under n l + 1 := by simp [under, h]
      rw [if_pos h, ih, e]
      by_cases c : under n l < l.length ∧ l.getD (under n l) 0 = n
      · rw [if_pos c, if_pos ⟨by simp; omega, by simpa using c.2⟩]
      · rw [if_neg c, if_neg (fun hh => c ⟨by have := hh.1; simp at this; omega, by simpa using hh.2⟩)]
        rfl
    · have e : under n (x :: l) = 0 := by simp [under, h]
      rw [if_neg h, e]
      by_cases c : x = n
      · rw [if_pos c, if_pos ⟨by simp, by simpa using c⟩]
      · rw [if_neg c, if_neg (fun hh => c (by simpa using hh.2))]
        rfl
/-- where the search for a place stops -/
theorem under_step (n : Int) (l : List Int) (d : Nat) : ∀ i : Nat, i + d = l.length → (i < l.length ∧ l.getD i 0 < n → under n (l.drop i) = under n (l.drop (i + 1)) + 1) ∧ (¬ (i < l.length ∧ l.getD i 0 < n) → under n (l.drop i) = 0) := by
  intro i hi
  constructor
  · rintro ⟨h1, h2⟩
    have e : l.getD i 0 = l[i] := by simp [List.getD_eq_getElem?_getD, h1]
    rw [e] at h2
    rw [List.drop_eq_getElem_cons h1]
    unfold under
    rw [List.takeWhile_cons, if_pos (by simpa using h2), List.length_cons]
  · intro h
    by_cases h1 : i < l.length
    · have e : l.getD i 0 = l[i] := by simp [List.getD_eq_getElem?_getD, h1]
      have h2 : ¬ l[i] < n := fun hh => h ⟨h1, by rw [e]; exact hh⟩
      rw [List.drop_eq_getElem_cons h1]
      unfold under
      rw [List.takeWhile_cons, if_neg (by simpa using h2)]
      rfl
    · rw [List.drop_of_length_le (by omega)]
      rfl
theorem l1Put_L0 (b : Bool) (l : List Int) (n : Int) (hl : l.length ≤ 1048576) (d : Nat) : ∀ i : Nat, i + d = l.length → spec_l1Put_L0 (b, l) n (i : Int) = some ((i + under n (l.drop i) : Nat) : Int) := by
  induction d with
  | zero =>
    intro i hi
    rw [spec_l1Put_L0_eq, gF (by simp only; omega), List.drop_of_length_le (by omega)]
    rfl
  | succ d ih =>
    intro i hi
    obtain ⟨h1, h2⟩ := under_step n l (d + 1) i hi
    rw [spec_l1Put_L0_eq, gT (by simp only; omega), gT (by omega), gT (by simp only; omega), getD_nat, up1 i (by omega), bind_id]
    by_cases c : l.getD i 0 < n
    · rw [gT c, ih (i + 1) (by omega), h1 ⟨by omega, c⟩]
      congr 2
      omega
    · rw [gF c, h2 (fun h => c h.2)]
      rfl
theorem insL_length (n : Int) (l : List Int) : (insL n l).length ≤ l.length + 1 := by
  induction l with
  | nil => simp [insL]
  | cons x l ih =>
    unfold insL
    split
    · simp only [List.length_cons]; omega
    · split <;> simp
theorem l1Put (b : Bool) (l : List Int) (n : Int) (hl : l.length ≤ 1000000) : ∃ f, spec_l1Put (b, l) n = some (f, insL n l) := by
  have hlim := lim_eq
  have h := l1Put_L0 b l n (by omega) l.length 0 (by omega)
  rw [List.drop_zero, Nat.zero_add] at h
  have h' : spec_l1Put_L0 (b, l) n 0 = _ := h
  have hk := under_le n l
  rw [spec_l1Put_eq, h', some_bind, insL_eq]
  generalize under n l = k at hk
  have hfin : ∀ (x : Option (Bool × List Int)), x = (bif decide (0 ≤ (k : Int)) then
      bif decide ((k : Int) ≤ ((b, l).2.length : Int)) then
      bif decide (([] : List Int).length + (((b, l).2.take (Int.toNat (k : Int))).drop 0).length ≤ lim) then
      bif decide (([] ++ (((b, l).2.take (Int.toNat (k : Int))).drop 0)).length + [n].length ≤ lim) then
      bif decide (0 ≤ (k : Int)) then
      bif decide ((k : Int) ≤ ((b, l).2.length : Int)) then
      bif decide ((([] ++ (((b, l).2.take (Int.toNat (k : Int))).drop 0)) ++ [n]).length + (((b, l).2.take (b, l).2.length).drop (Int.toNat (k : Int))).length ≤ lim) then
      some (false, ((([] ++ (((b, l).2.take (Int.toNat (k : Int))).drop 0)) ++ [n]) ++ (((b, l).2.take (b, l).2.length).drop (Int.toNat (k : Int)))))
      else none else none else none else none else none else none else none) → x = some (false, l.take k ++ n :: l.drop k) := by
    rintro x rfl
    rw [gT (by omega), gT (by simp only; omega), gT (by simp; omega), gT (by simp; omega), gT (by omega), gT (by simp only; omega), gT (by simp; omega)]
    simp
  by_cases c : k < l.length
  · rw [gT (by simp only; omega), gT (by omega), gT (by simp only; omega), getD_nat]
    by_cases c2 : l.getD k 0 = n
    · rw [bT (by rw [beq_iff_eq]; exact c2), if_pos ⟨c, c2⟩]
      exact ⟨b, rfl⟩
    · rw [bF (beqF c2), if_neg (fun h => c2 h.2)]
      exact ⟨false, hfin _ rfl⟩
  · rw [gF (by simp only; omega), if_neg (fun h => c h.1)]
    exact ⟨false, hfin _ rfl⟩
theorem marked_L0 (t : Bool × List Bool) (hl : t.2.length ≤ 100000) (d : Nat) : ∀ (i : Nat) (o : List Int), i + d = t.2.length → o.length ≤ i →
    impl_marked_L0 (false, o) t (t.2.length : Int) (i : Int) = some (false, o ++ ((List.range' i d).filter fun j => t.2.getD j false).map Int.ofNat) := by
  have hlim := lim_eq
  induction d with
  | zero =>
    intro i o hi ho
    rw [impl_marked_L0_eq, gF (by omega)]
    simp
  | succ d ih =>
    intro i o hi ho
    have hlt : i < t.2.length := by omega
    rw [impl_marked_L0_eq, gT (by omega), gT (by omega), gT (by omega), getD_nat, up1 i (by omega), bind_id, bind_id, List.range'_succ, List.filter_cons]
    cases t.2.getD i false with
    | true => rw [cond_true, gT (by simp; omega), Bool.and_false, ih (i + 1) _ (by omega) (by simp; omega)]; simp
    | false => rw [cond_false, ih (i + 1) o (by omega) (by omega)]; simp
theorem marked (t : Bool × List Bool) (hl : t.2.length ≤ 100000) : impl_marked t = some (false, ((List.range t.2.length).filter fun j => t.2.getD j false).map Int.ofNat) := by
  have h := marked_L0 t hl t.2.length 0 [] (by omega) (by simp)
  have h' : impl_marked_L0 (false, []) t (t.2.length : Int) 0 = _ := h
  rw [impl_marked_eq, h', some_bind, List.range_eq_range']
  rfl
/-- the state after a command's changes -/
noncomputable def doL (p : DProgram) (s : List Int) (cs : List DChange) : List Int := cs.foldl (fun o d => o.set d.1.toNat (valT p.1 s d.2.2)) s
/-- a state's number -/
def noL (w : Nat) : List Int → Int
  | [] => 0
  | a :: l => a + 2 ^ w * noL w l
/-- a state of a program -/
structure StOf (p : DProgram) (s : List Int) : Prop where
  len : (s.length : Int) = p.2.1
  words : ∀ v ∈ s, W5 p.1 v
theorem stateL_of {p : DProgram} (hp : Sml p) (no : Int) : StOf p (stateL p no) := ⟨stateL_length hp no, stateL_words hp no⟩
theorem foldSet_length {s : List Int} {p : DProgram} (cs : List DChange) : ∀ o : List Int, (cs.foldl (fun o d => o.set d.1.toNat (valT p.1 s d.2.2)) o).length = o.length := by
  induction cs with
  | nil => intro o; rfl
  | cons c cs ih => intro o; rw [List.foldl_cons, ih, List.length_set]
theorem val_of {p : DProgram} (hp : Sml p) {s : List Int} (hs : StOf p s) (b : Bool) (t : Bool × List DNode) (hx : WfN t.2) (hk : kindT p.1 p.2.1 t.2 = 1) :
    W5 p.1 (valT p.1 s t.2) ∧ spec_l2Value p.1 t (IntKind.i64.wrap ((t.2.length : Int) - 1)) (b, s) = some (valT p.1 s t.2) ∧ impl_valueOf p.1 t (b, s) = some (valT p.1 s t.2) := by
  have h1 := hp.w1
  have h2 := hp.w2
  have hv4 := hp.v2
  have h3 := hp.v2
  have hl := hs.len
  obtain ⟨q1, _, q2, q3⟩ := value_both p.1 (by omega) (b, s) (by simp only; omega) hs.words t hx (by rw [show (((b, s) : Bool × List Int).2.length : Int) = p.2.1 from hl, hk]; decide)
  exact ⟨q1, q2, q3⟩
theorem doL_of {p : DProgram} (hp : Sml p) {s : List Int} (hs : StOf p s) (cs : List DChange) (hw : ∀ d ∈ cs, WfCh d) (hc : ∀ d ∈ cs, 0 ≤ d.1 ∧ d.1 < p.2.1 ∧ kindT p.1 p.2.1 d.2.2 = 1) : StOf p (doL p s cs) := by
  refine ⟨by rw [doL, foldSet_length]; exact hs.len, ?_⟩
  have key : ∀ (cs : List DChange), (∀ d ∈ cs, WfCh d) → (∀ d ∈ cs, 0 ≤ d.1 ∧ d.1 < p.2.1 ∧ kindT p.1 p.2.1 d.2.2 = 1) → ∀ o : List Int, (∀ v ∈ o, W5 p.1 v) → ∀ v ∈ cs.foldl (fun o d => o.set d.1.toNat (valT p.1 s d.2.2)) o, W5 p.1 v := by
    intro cs
    induction cs with
    | nil => intro _ _ o ho; exact ho
    | cons c cs ih =>
      intro hw hc o ho
      rw [List.foldl_cons]
      refine ih (fun d hd => hw d (List.mem_cons_of_mem _ hd)) (fun d hd => hc d (List.mem_cons_of_mem _ hd)) _ (fun v hv => ?_)
      rcases List.mem_or_eq_of_mem_set hv with hv | rfl
      · exact ho v hv
      · exact (val_of hp hs false c.2 (hw c List.mem_cons_self) (hc c List.mem_cons_self).2.2).1
  exact key cs hw hc s hs.words
theorem do_L0 {p : DProgram} (hp : Sml p) {s : List Int} (hs : StOf p s) (b : Bool) (cs : Bool × List DChange) (hl : cs.2.length ≤ 1048576) (hw : ∀ d ∈ cs.2, WfCh d) (hc : ∀ d ∈ cs.2, 0 ≤ d.1 ∧ d.1 < p.2.1 ∧ kindT p.1 p.2.1 d.2.2 = 1) (f : Bool) :
    spec_l7Do_L0 (b, s) p (f, s) cs (cs.2.length : Int) 0 = some (f, doL p s cs.2) ∧ impl_Program_after_L0 (b, s) p (f, s) cs (cs.2.length : Int) 0 = some (f, doL p s cs.2) := by
  constructor
  · exact loop_fold cs.2 (fun (o : List Int) d => o.set d.1.toNat (valT p.1 s d.2.2)) (fun o => (f, o)) (fun o i => spec_l7Do_L0 (b, s) p (f, o) cs (cs.2.length : Int) i) (fun i o => o.length = s.length) (fun i h o ho => by
      have hd := List.getElem_mem h
      obtain ⟨_, q2, _⟩ := val_of hp hs b (cs.2[i]).2 (hw _ hd) (hc _ hd).2.2
      have c1 := hc _ hd
      have := hs.len
      refine ⟨?_, by rw [List.length_set]; exact ho⟩
      rw [spec_l7Do_L0_eq, gT (by omega), gT (by omega), gT (by omega), getD_at cs.2 _ i h, q2, some_bind, gT c1.1, gT (by simp only; omega), up1 i (by omega), bind_id]) (fun o ho => by rw [spec_l7Do_L0_eq, gF (by omega)]) s rfl
  · exact loop_fold cs.2 (fun (o : List Int) d => o.set d.1.toNat (valT p.1 s d.2.2)) (fun o => (f, o)) (fun o i => impl_Program_after_L0 (b, s) p (f, o) cs (cs.2.length : Int) i) (fun i o => o.length = s.length) (fun i h o ho => by
      have hd := List.getElem_mem h
      obtain ⟨_, _, q3⟩ := val_of hp hs b (cs.2[i]).2 (hw _ hd) (hc _ hd).2.2
      have c1 := hc _ hd
      have := hs.len
      refine ⟨?_, by rw [List.length_set]; exact ho⟩
      rw [impl_Program_after_L0_eq, gT (by omega), gT (by omega), gT (by omega), getD_at cs.2 _ i h, q3, some_bind, gT c1.1, gT (by simp only; omega), up1 i (by omega), bind_id]) (fun o ho => by rw [impl_Program_after_L0_eq, gF (by omega)]) s rfl
theorem l7Do {p : DProgram} (hp : Sml p) (hg : goodProgram p = true) (hsm : SmProgram p) (hw : WfP p) {s : List Int} (hs : StOf p s) (b : Bool) (k : Nat) (hk : k < p.2.2.2.2.length) : spec_l7Do p (b, s) (k : Int) = some (false, doL p s (p.2.2.2.2[k]).2.2) := by
  have hlim := lim_eq
  have hl := hs.len
  have hv := hp.v2
  have hm := List.getElem_mem hk
  have q := (do_L0 hp hs b (p.2.2.2.2[k]).2 (hsm.2.2 _ hm).2.1 (hw.2 _ hm).2 (cmd_in hg _ hm).2 false).1
  rw [spec_l7Do_eq, gT (by simp; omega), gT (by omega), gT (by omega), getD_at p.2.2.2.2 _ k hk, List.nil_append, q, some_bind]
theorem afterC {p : DProgram} (hp : Sml p) (hg : goodProgram p = true) (hsm : SmProgram p) (hw : WfP p) {s : List Int} (hs : StOf p s) (c : DCommand) (hm : c ∈ p.2.2.2.2) : impl_Program_after p c (false, s) = some (false, doL p s c.2.2) := by
  have hlim := lim_eq
  have hl := hs.len
  have hv := hp.v2
  have q := (do_L0 hp hs false c.2 (hsm.2.2 _ hm).2.1 (hw.2 _ hm).2 (cmd_in hg _ hm).2 false).2
  rw [impl_Program_after_eq, slices_Clone_uint64_eq, cond_false, gT (by simp; omega), List.nil_append, some_bind, q, some_bind]
/-! numbers of states -/
theorem noL_in (w : Nat) : ∀ s : List Int, (∀ v ∈ s, 0 ≤ v ∧ v < 2 ^ w) → 0 ≤ noL w s ∧ noL w s < 2 ^ (w * s.length) := by
  intro s
  induction s with
  | nil => intro _; simp [noL]
  | cons a s ih =>
    intro h
    obtain ⟨h1, h2⟩ := ih fun v hv => h v (List.mem_cons_of_mem _ hv)
    have ha := h a List.mem_cons_self
    have hp : (0 : Int) < 2 ^ w := Int.pow_pos (by decide)
    have e : (2 : Int) ^ (w * (a :: s).length) = 2 ^ w * 2 ^ (w * s.length) := by rw [List.length_cons, Nat.mul_succ, Nat.add_comm, Int.pow_add]
    have h3 : 2 ^ w * noL w s ≤ 2 ^ w * (2 ^ (w * s.length) - 1) := Int.mul_le_mul_of_nonneg_left (by omega) (by omega)
    have h4 : 0 ≤ 2 ^ w * noL w s := Int.mul_nonneg (by omega) h1
    rw [Int.mul_sub, Int.mul_one] at h3
    rw [e, noL]
    omega
theorem noL_snoc (w : Nat) (a : Int) : ∀ s : List Int, noL w (s ++ [a]) = noL w s + 2 ^ (w * s.length) * a := by
  intro s
  induction s with
  | nil => simp [noL]
  | cons b s ih =>
    rw [List.cons_append, noL, ih, noL, List.length_cons, Nat.mul_succ, Nat.add_comm (w * s.length), Int.pow_add, Int.mul_add, Int.mul_assoc, Int.add_assoc]
theorem bOr_i64 (a b : Nat) (ha : a < 2 ^ 62) (hb : b < 2 ^ 62) : bOr .i64 (a : Int) (b : Int) = ((a ||| b : Nat) : Int) := by
  unfold bOr
  show IntKind.i64.wrap (((BitVec.ofInt 64 (a : Int) ||| BitVec.ofInt 64 (b : Int)).toNat : Nat) : Int) = _
  rw [BitVec.toNat_or, BitVec.ofInt_natCast, BitVec.ofInt_natCast, BitVec.toNat_ofNat, BitVec.toNat_ofNat, Nat.mod_eq_of_lt (by omega), Nat.mod_eq_of_lt (by omega)]
  have := Nat.or_lt_two_pow ha hb
  exact wr ⟨by omega, by simp at this; omega⟩
theorem bShl_i64 (x : Int) (n : Nat) (hn : n < 64) (h : 0 ≤ x * 2 ^ n ∧ x * 2 ^ n < 9223372036854775808) : bShl .i64 x (n : Int) = x * 2 ^ n := by
  unfold bShl
  have e : min ((n : Int)).toNat (IntKind.i64.bits) = n := by
    simp only [Int.toNat_natCast, IntKind.bits]
    omega
  rw [e, wr (by omega)]
theorem words_pow {p : DProgram} (hp : Sml p) {w : Nat} (hw : p.1 = w) {s : List Int} (hs : ∀ v ∈ s, W5 p.1 v) : ∀ v ∈ s, 0 ≤ v ∧ v < 2 ^ w := by
  intro v hv
  have h := hs v hv
  have e : top p.1 + 1 = ((2 ^ w : Nat) : Int) := by rw [hw]; exact top_pow
  have e2 : ((2 : Int) ^ w) = ((2 ^ w : Nat) : Int) := by simp
  exact ⟨h.1, by rw [e2, ← e]; have := h.2; omega⟩
theorem pow5 {n : Nat} (h : n ≤ 5) : (2 : Int) ^ n ≤ 32 := by
  have : (2 : Nat) ^ n ≤ 2 ^ 5 := Nat.pow_le_pow_right (by decide) h
  have e2 : ((2 : Int) ^ n) = ((2 ^ n : Nat) : Int) := by simp
  omega
theorem pow5_pos (n : Nat) : (1 : Int) ≤ 2 ^ n := by
  have : (0 : Int) < 2 ^ n := Int.pow_pos (by decide)
  omega
theorem l7No {p : DProgram} (hp : Sml p) {s : List Int} (hs : StOf p s) (b : Bool) : spec_l7No p (b, s) = some (noL p.1.toNat s) := by
  obtain ⟨w, hw⟩ := Int.eq_ofNat_of_zero_le (show 0 ≤ p.1 by have := hp.w1; omega)
  have hpw := words_pow hp hw hs.words
  have hl := hs.len
  have ha : w * s.length ≤ 5 := area_nat (by have := hp.a1; rw [hw, ← hl] at this; exact this)
  have h1 := hp.w1
  have h2 := hp.w2
  have hv4 := hp.v2
  have key : ∀ (i : Nat), i ≤ s.length → spec_l7No_L0 (b, s) p (noL w (s.drop i)) ((i : Int) - 1) = some (noL w s) := by
    intro i
    induction i with
    | zero =>
      intro _
      rw [spec_l7No_L0_eq, gF (by omega), List.drop_zero]
    | succ i ih =>
      intro hi
      have hlt : i < s.length := by omega
      have hq := noL_in w (s.drop (i + 1)) fun v hv => hpw v (List.mem_of_mem_drop hv)
      have hq2 := noL_in w (s.drop i) fun v hv => hpw v (List.mem_of_mem_drop hv)
      have hv := hpw _ (List.getElem_mem hlt)
      have hd := List.drop_eq_getElem_cons hlt
      have hpd : w * (s.drop i).length ≤ 5 := Nat.le_trans (Nat.mul_le_mul_left w (by simp)) ha
      have hb := pow5 hpd
      have e0 : noL w (s.drop i) = s[i] + 2 ^ w * noL w (s.drop (i + 1)) := by rw [hd, noL]
      have hm : noL w (s.drop (i + 1)) * 2 ^ w = 2 ^ w * noL w (s.drop (i + 1)) := Int.mul_comm _ _
      have hnn : 0 ≤ 2 ^ w * noL w (s.drop (i + 1)) := Int.mul_nonneg (by have := pow5_pos w; omega) hq.1
      rw [spec_l7No_L0_eq, gT (by omega), hw, wru (by omega), gF (by omega), gT (by omega), gT (by simp only; omega), show ((i + 1 : Nat) : Int) - 1 = (i : Int) by omega, getD_at s _ i hlt, bShl_i64 _ w (by omega) (by omega), wr (n := s[i]) (by omega), hm, Int.add_comm, ← e0, wr (n := noL w (s.drop i)) (by omega), wr (n := (i : Int) - 1) (by omega), bind_id, ih (by omega)]
  have := key s.length (Nat.le_refl _)
  rw [List.drop_length] at this
  have this' : spec_l7No_L0 (b, s) p 0 ((s.length : Int) - 1) = some (noL w s) := this
  rw [spec_l7No_eq, wr (by omega), ← hl, this', some_bind, hw, Int.toNat_natCast]
theorem stateNo {p : DProgram} (hp : Sml p) {s : List Int} (hs : StOf p s) (b : Bool) : impl_Program_stateNo p (b, s) = some (noL p.1.toNat s) := by
  obtain ⟨w, hw⟩ := Int.eq_ofNat_of_zero_le (show 0 ≤ p.1 by have := hp.w1; omega)
  have hpw := words_pow hp hw hs.words
  have hl := hs.len
  have ha : w * s.length ≤ 5 := area_nat (by have := hp.a1; rw [hw, ← hl] at this; exact this)
  have h1 := hp.w1
  have h2 := hp.w2
  have hv4 := hp.v2
  have key : ∀ (d i : Nat), i + d = s.length → impl_Program_stateNo_L0 p (noL w (s.take i)) (b, s) (s.length : Int) (i : Int) = some (noL w s) := by
    intro d
    induction d with
    | zero =>
      intro i hi
      rw [impl_Program_stateNo_L0_eq, gF (by omega), List.take_of_length_le (by omega)]
    | succ d ih =>
      intro i hi
      have hlt : i < s.length := by omega
      have hv := hpw _ (List.getElem_mem hlt)
      have hq := noL_in w (s.take i) fun v hv => hpw v (List.mem_of_mem_take hv)
      have hq2 := noL_in w (s.take (i + 1)) fun v hv => hpw v (List.mem_of_mem_take hv)
      have hti : (s.take i).length = i := by simp; omega
      have hti2 : (s.take (i + 1)).length = i + 1 := by simp; omega
      have e0 : noL w (s.take (i + 1)) = noL w (s.take i) + 2 ^ (w * i) * s[i] := by
        rw [List.take_succ_eq_append_getElem hlt, noL_snoc, hti]
      have hwi : w * (i + 1) ≤ 5 := Nat.le_trans (Nat.mul_le_mul_left w (by omega)) ha
      have hwi0 : w * i ≤ 5 := Nat.le_trans (Nat.mul_le_mul_left w (by omega)) ha
      rw [hti2] at hq2
      rw [hti] at hq
      have hb := pow5 hwi
      have hb2 := pow5 (show w ≤ 5 by omega)
      have hnn : 0 ≤ 2 ^ (w * i) * s[i] := Int.mul_nonneg (by have := pow5_pos (w * i); omega) hv.1
      have hm : s[i] * 2 ^ (w * i) = 2 ^ (w * i) * s[i] := Int.mul_comm _ _
      have e1 : (w : Int) * (i : Int) = ((w * i : Nat) : Int) := by simp
      obtain ⟨m, hm2⟩ := Int.eq_ofNat_of_zero_le hq.1
      obtain ⟨n, hn2⟩ := Int.eq_ofNat_of_zero_le hv.1
      have hor : bOr .i64 (noL w (s.take i)) (2 ^ (w * i) * s[i]) = noL w (s.take (i + 1)) := by
        rw [e0, hm2, hn2]
        have hmlt : m < 2 ^ (w * i) := by
          have e2 : ((2 : Int) ^ (w * i)) = ((2 ^ (w * i) : Nat) : Int) := by simp
          have := hq.2
          rw [hm2, e2] at this
          omega
        have e3 : (2 : Int) ^ (w * i) * (n : Int) = ((2 ^ (w * i) * n : Nat) : Int) := by simp
        rw [e3, bOr_i64 m _ (by omega) (by rw [hn2, e3] at hnn; have := hq2.2; rw [e0, hm2, hn2, e3] at this; omega), Nat.or_comm, ← Nat.two_pow_add_eq_or_of_lt hmlt]
        omega
      rw [impl_Program_stateNo_L0_eq, gT (by omega), gT (by omega), gT (by simp only; omega), hw, e1, wr (n := ((w * i : Nat) : Int)) (by omega), gF (by omega), getD_at s _ i hlt, wr (n := s[i]) (by omega), bShl_i64 _ (w * i) (by omega) (by omega), hm, hor, up1 i (by omega), bind_id, ih (i + 1) (by omega)]
  have := key s.length 0 (by omega)
  have this' : impl_Program_stateNo_L0 p 0 (b, s) (s.length : Int) 0 = some (noL w s) := this
  rw [impl_Program_stateNo_eq]
  rw [show (((b, s) : Bool × List Int).2.length : Int) = (s.length : Int) from rfl, this', some_bind, hw, Int.toNat_natCast]
theorem noL_many {p : DProgram} (hp : Sml p) {s : List Int} (hs : StOf p s) : 0 ≤ noL p.1.toNat s ∧ noL p.1.toNat s < (manyS p : Int) := by
  obtain ⟨w, hw⟩ := Int.eq_ofNat_of_zero_le (show 0 ≤ p.1 by have := hp.w1; omega)
  have h := noL_in w s (words_pow hp hw hs.words)
  have e : w * s.length = (p.1 * p.2.1).toNat := by rw [hw, ← hs.len, ← Int.natCast_mul, Int.toNat_natCast]
  rw [hw, Int.toNat_natCast, manyS, ← e]
  refine ⟨h.1, ?_⟩
  have e2 : ((2 : Int) ^ (w * s.length)) = ((2 ^ (w * s.length) : Nat) : Int) := by simp
  rw [← e2]
  exact h.2
theorem compact_sorted (zs : List Int) (h : zs.Pairwise (· ≤ ·)) : Rising (Lib.compact zs) ∧ ∀ x, x ∈ Lib.compact zs ↔ x ∈ zs := by
  have hget : ∀ i (hi : i < zs.length), zs.toArray[i]! = zs[i] := fun i hi => by simp [hi]
  have hle : ∀ i j (hj : j < zs.length) (hij : i ≤ j), zs[i]'(by omega) ≤ zs[j] := by
    intro i j hj hij
    rcases Nat.lt_or_ge i j with h1 | h1
    · exact List.pairwise_iff_getElem.1 h i j (by omega) hj h1
    · obtain rfl : i = j := by omega
      exact Int.le_refl _
  refine ⟨?_, fun x => ⟨compact_mem x, ?_⟩⟩
  · unfold Lib.compact Lib.compactUpTo
    rw [Rising, List.pairwise_map]
    refine List.Pairwise.imp_of_mem (fun {a b} ha hb hab => ?_) (List.Pairwise.filter _ List.pairwise_lt_range)
    rw [List.mem_filter, List.mem_range] at ha hb
    have h1 := hb.2
    simp only [Lib.keeps, decide_eq_true_eq] at h1
    rw [hget a ha.1, hget b hb.1]
    rcases h1 with h1 | h1
    · omega
    · rw [hget b hb.1, hget (b - 1) (by omega)] at h1
      have h2 := hle a (b - 1) (by omega) (by omega)
      have h3 := hle (b - 1) b hb.1 (by omega)
      omega
  · intro hx
    obtain ⟨i, hi, rfl⟩ := List.getElem_of_mem hx
    have key : ∀ i (hi : i < zs.length), zs[i] ∈ Lib.compact zs := by
      intro i
      induction i with
      | zero =>
        intro hi
        unfold Lib.compact Lib.compactUpTo
        exact List.mem_map.2 ⟨0, List.mem_filter.2 ⟨List.mem_range.2 hi, by simp [Lib.keeps]⟩, hget 0 hi⟩
      | succ i ih =>
        intro hi
        by_cases c : zs[i + 1] = zs[i]
        · rw [c]; exact ih (by omega)
        · unfold Lib.compact Lib.compactUpTo
          refine List.mem_map.2 ⟨i + 1, List.mem_filter.2 ⟨List.mem_range.2 hi, ?_⟩, hget (i + 1) hi⟩
          simp only [Lib.keeps, decide_eq_true_eq]
          right
          rw [hget (i + 1) hi, Nat.add_sub_cancel, hget i (by omega)]
          exact c
    exact key i hi
theorem sort_compact (l : List Int) : Lib.compact (l.mergeSort fun a b => decide (a ≤ b)) = sortL l := by
  have h := List.pairwise_mergeSort (le := fun a b : Int => decide (a ≤ b)) (by intro a b c; simp; omega) (by intro a b; simp; omega) l
  obtain ⟨h1, h2⟩ := compact_sorted (l.mergeSort fun a b => decide (a ≤ b)) (h.imp (by simp))
  refine rising_ext _ _ h1 (sortL_rising l) fun x => ?_
  rw [h2, sortL_mem]
  exact (List.mergeSort_perm l _).mem_iff
theorem sorted_run {α : Type} (l : List Int) (hl : l.length ≤ 1048576) (f : Bool × List Int → Option α) : ((slices_Sort_int (false, l)).bind fun r => (slices_Compact_int (r.1, r.2)).bind f) = f (false, sortL l) := by
  have hlim := lim_eq
  rw [slices_Sort_int_eq, bind_id]
  have e : sortI (false, l) = some (false, l.mergeSort fun a b => decide (a ≤ b)) := by
    unfold sortI
    rw [cond_false, gT (by simp only; omega)]
  rw [e, some_bind, slices_Compact_int_eq, bind_id]
  have e2 : compactI (false, l.mergeSort fun a b => decide (a ≤ b)) = some (false, sortL l) := by
    unfold compactI
    rw [cond_false, gT (by simp only [List.length_mergeSort]; omega), sort_compact]
  show (compactI (false, l.mergeSort fun a b => decide (a ≤ b))).bind f = _
  rw [e2, some_bind]
theorem foldl_insL (l : List Int) : ∀ o, (l.foldl (fun o n => insL n o) o).length ≤ o.length + l.length := by
  induction l with
  | nil => intro o; simp
  | cons a l ih =>
    intro o
    rw [List.foldl_cons, List.length_cons]
    have h1 := ih (insL a o)
    have h2 := insL_length a o
    omega
/-- where a command leads from a state, if it is enabled there -/
noncomputable def goC (p : DProgram) (c : DCommand) (s : List Int) : List Int := if holdsS p c.1.2 s = true then [noL p.1.toNat (doL p s c.2.2)] else []
/-- where the commands lead from a state -/
noncomputable def goL (p : DProgram) (no : Int) : List Int := p.2.2.2.2.flatMap fun c => goC p c (stateL p no)
noncomputable def nextL (p : DProgram) (no : Int) : List Int := if goL p no = [] then [no] else sortL (goL p no)
/-- what is known of a small program -/
structure Ok (p : DProgram) : Prop where
  sml : Sml p
  good : goodProgram p = true
  sm : SmProgram p
  wf : WfP p
theorem Ok_of {p : DProgram} (h : isSmall p = true) (hs : SmProgram p) (hw : WfP p) : Ok p := ⟨Sml_of h, (isSmall_in h).1, hs, hw⟩
theorem Ok.cmd {p : DProgram} (h : Ok p) {c : DCommand} (hc : c ∈ p.2.2.2.2) : WfN c.1.2 ∧ kindT p.1 p.2.1 c.1.2 ≠ 0 := by
  refine ⟨(h.wf.2 c hc).1, ?_⟩
  rw [(cmd_in h.good c hc).1]
  decide
theorem Ok.many {p : DProgram} (h : Ok p) : 1 ≤ p.2.2.2.2.length ∧ p.2.2.2.2.length ≤ 6 := by
  have hg := h.good
  simp only [goodProgram, Bool.and_eq_true, decide_eq_true_eq] at hg
  exact hg.2.1
theorem goC_in {p : DProgram} (h : Ok p) {c : DCommand} (hc : c ∈ p.2.2.2.2) {s : List Int} (hs : StOf p s) : ∀ x ∈ goC p c s, 0 ≤ x ∧ x < (manyS p : Int) := by
  intro x hx
  unfold goC at hx
  split at hx
  · rw [List.mem_singleton] at hx
    rw [hx]
    exact noL_many h.sml (doL_of h.sml hs _ (h.wf.2 _ hc).2 (cmd_in h.good _ hc).2)
  · cases hx
theorem goL_in {p : DProgram} (h : Ok p) (no : Int) : ∀ x ∈ goL p no, 0 ≤ x ∧ x < (manyS p : Int) := by
  intro x hx
  obtain ⟨c, hc, hx⟩ := List.mem_flatMap.1 hx
  exact goC_in h hc (stateL_of h.sml no) x hx
theorem nextL_in {p : DProgram} (h : Ok p) {no : Int} (hn : 0 ≤ no ∧ no < (manyS p : Int)) : ∀ x ∈ nextL p no, 0 ≤ x ∧ x < (manyS p : Int) := by
  intro x hx
  unfold nextL at hx
  split at hx
  · rw [List.mem_singleton] at hx
    omega
  · exact goL_in h no x ((sortL_mem _ x).1 hx)
theorem nextL_rising (p : DProgram) (no : Int) : Rising (nextL p no) := by
  unfold nextL
  split
  · exact List.pairwise_singleton _ _
  · exact sortL_rising _
theorem nextL_length {p : DProgram} (h : Ok p) {no : Int} (hn : 0 ≤ no ∧ no < (manyS p : Int)) : (nextL p no).length ≤ manyS p := Rising_length (nextL_rising p no) (nextL_in h hn)
theorem goC_length (p : DProgram) (c : DCommand) (s : List Int) : (goC p c s).length ≤ 1 := by
  unfold goC
  split <;> simp
theorem goL_length (p : DProgram) (no : Int) (cs : List DCommand) : (cs.flatMap fun c => goC p c (stateL p no)).length ≤ cs.length := by
  induction cs with
  | nil => simp
  | cons a l ih =>
    have := goC_length p a (stateL p no)
    simp only [List.flatMap_cons, List.length_append, List.length_cons]
    omega
/-! afterOf -/
theorem nextOf_L0 {p : DProgram} (h : Ok p) (no : Int) (d : Nat) : ∀ (i : Nat) (o : List Int), i + d = p.2.2.2.2.length → o.length ≤ i →
    impl_Program_nextOf_L0 no p (false, stateL p no) (false, o) p.2.2.2 (p.2.2.2.2.length : Int) (i : Int) = some (false, o ++ (p.2.2.2.2.drop i).flatMap fun c => goC p c (stateL p no)) := by
  have hlim := lim_eq
  have hmany := h.many
  have hs := stateL_of h.sml no
  induction d with
  | zero =>
    intro i o hi ho
    rw [impl_Program_nextOf_L0_eq, gF (by omega), List.drop_of_length_le (by omega)]
    simp
  | succ d ih =>
    intro i o hi ho
    have hlt : i < p.2.2.2.2.length := by omega
    have hm := List.getElem_mem hlt
    obtain ⟨c1, c2⟩ := h.cmd hm
    have e := (holds_at h.sml (p.2.2.2.2[i]).1 c1 c2 false no).2
    rw [impl_Program_nextOf_L0_eq, gT (by omega), gT (by omega), gT (by omega), getD_at p.2.2.2.2 _ i hlt, e, some_bind, List.drop_eq_getElem_cons hlt, List.flatMap_cons, up1 i (by omega), bind_id]
    cases hh : holdsB p (p.2.2.2.2[i]).1.2 no with
    | true =>
      have hg : goC p (p.2.2.2.2[i]) (stateL p no) = [noL p.1.toNat (doL p (stateL p no) (p.2.2.2.2[i]).2.2)] := if_pos hh
      rw [cond_true, afterC h.sml h.good h.sm h.wf hs _ hm, some_bind, stateNo h.sml (doL_of h.sml hs _ (h.wf.2 _ hm).2 (cmd_in h.good _ hm).2), some_bind, gT (by simp; omega), bind_id, Bool.and_false, ih (i + 1) _ (by omega) (by simp; omega), hg]
      simp
    | false =>
      have hg : goC p (p.2.2.2.2[i]) (stateL p no) = [] := if_neg (by show ¬ holdsB _ _ _ = true; rw [hh]; simp)
      rw [cond_false, ih (i + 1) o (by omega) (by omega), hg]
      simp
theorem nextOf {p : DProgram} (h : Ok p) (no : Int) (hn : 0 ≤ no ∧ no < 1000) : impl_Program_nextOf p no = some (false, nextL p no) := by
  have hmany := h.many
  have q := nextOf_L0 h no p.2.2.2.2.length 0 [] (by omega) (by simp)
  have q' : impl_Program_nextOf_L0 no p (false, stateL p no) (false, []) p.2.2.2 (p.2.2.2.2.length : Int) 0 = _ := q
  have hlen := goL_length p no p.2.2.2.2
  rw [impl_Program_nextOf_eq, stateOf h.sml no hn, some_bind, q', some_bind, List.nil_append, List.drop_zero]
  show (bif (((goL p no).length : Int) == 0) then some (false, [no]) else (slices_Sort_int (false, goL p no)).bind fun r2 => (slices_Compact_int (r2.1, r2.2)).bind fun r3 => some (r3.1, r3.2)) = _
  unfold nextL
  by_cases c : goL p no = []
  · rw [if_pos c, bT (by rw [c]; rfl)]
  · have : 0 < (goL p no).length := List.length_pos_iff.2 c
    rw [if_neg c, bF (beqF (by omega)), sorted_run _ (by show (goL p no).length ≤ _; have : (goL p no).length ≤ p.2.2.2.2.length := hlen; omega)]
theorem l7Enabled_L0 {p : DProgram} (h : Ok p) (no : Int) (d : Nat) : ∀ (i : Nat) (b : Bool) (o : List Int), i + d = p.2.2.2.2.length → o.length ≤ i →
    ∃ b', spec_l7Enabled_L0 (false, stateL p no) p (b, o) p.2.2.2 (p.2.2.2.2.length : Int) (i : Int) = some (b', o ++ ((List.range' i d).filter fun k => holdsB p (p.2.2.2.2.getD k ((true, []), (true, []))).1.2 no).map Int.ofNat) := by
  have hlim := lim_eq
  have hmany := h.many
  induction d with
  | zero =>
    intro i b o hi ho
    rw [spec_l7Enabled_L0_eq, gF (by omega)]
    exact ⟨b, by simp⟩
  | succ d ih =>
    intro i b o hi ho
    have hlt : i < p.2.2.2.2.length := by omega
    have hm := List.getElem_mem hlt
    obtain ⟨c1, c2⟩ := h.cmd hm
    have e := (holds_at h.sml (p.2.2.2.2[i]).1 c1 c2 false no).1
    have e2 : p.2.2.2.2.getD i ((true, []), (true, [])) = p.2.2.2.2[i] := by simp [List.getD_eq_getElem?_getD, hlt]
    rw [spec_l7Enabled_L0_eq, gT (by omega), gT (by omega), gT (by omega), getD_nat, e2, e, some_bind, List.range'_succ, List.filter_cons, e2, up1 i (by omega), bind_id, bind_id]
    cases hh : holdsB p (p.2.2.2.2[i]).1.2 no with
    | true =>
      obtain ⟨b', g⟩ := ih (i + 1) (b && false) (o ++ [(i : Int)]) (by omega) (by simp; omega)
      rw [cond_true, gT (by simp; omega), g]
      exact ⟨b', by simp⟩
    | false =>
      obtain ⟨b', g⟩ := ih (i + 1) b o (by omega) (by omega)
      rw [cond_false, g]
      exact ⟨b', by simp⟩
/-- the numbers of the commands that are enabled -/
noncomputable def enabL (p : DProgram) (no : Int) : List Int := ((List.range p.2.2.2.2.length).filter fun k => holdsB p (p.2.2.2.2.getD k ((true, []), (true, []))).1.2 no).map Int.ofNat
theorem l7Enabled {p : DProgram} (h : Ok p) (no : Int) : ∃ b, spec_l7Enabled p (false, stateL p no) = some (b, enabL p no) := by
  obtain ⟨b, q⟩ := l7Enabled_L0 h no p.2.2.2.2.length 0 true [] (by omega) (by simp)
  have q' : spec_l7Enabled_L0 (false, stateL p no) p (true, []) p.2.2.2 (p.2.2.2.2.length : Int) 0 = _ := q
  rw [spec_l7Enabled_eq, q', some_bind, enabL, List.range_eq_range']
  exact ⟨b, rfl⟩
theorem goL_enab (p : DProgram) (no : Int) : goL p no = (enabL p no).map fun k => noL p.1.toNat (doL p (stateL p no) (p.2.2.2.2.getD k.toNat ((true, []), (true, []))).2.2) := by
  have key : ∀ (l : List DCommand) (n : Nat) (h : p.2.2.2.2.drop n = l), (l.flatMap fun c => goC p c (stateL p no)) = (((List.range' n l.length).filter fun k => holdsB p (p.2.2.2.2.getD k ((true, []), (true, []))).1.2 no).map Int.ofNat).map fun k => noL p.1.toNat (doL p (stateL p no) (p.2.2.2.2.getD k.toNat ((true, []), (true, []))).2.2) := by
    intro l
    induction l with
    | nil => intro n _; simp
    | cons c l ih =>
      intro n hd
      have hlt : n < p.2.2.2.2.length := by
        rcases Nat.lt_or_ge n p.2.2.2.2.length with h | h
        · exact h
        · rw [List.drop_of_length_le h] at hd; cases hd
      rw [List.drop_eq_getElem_cons hlt] at hd
      obtain ⟨h1, h2⟩ := List.cons.inj hd
      have e : p.2.2.2.2.getD n ((true, []), (true, [])) = c := by rw [← h1]; simp [List.getD_eq_getElem?_getD, hlt]
      rw [List.flatMap_cons, ih (n + 1) h2, List.length_cons, List.range'_succ, List.filter_cons, e]
      cases hh : holdsB p c.1.2 no with
      | true =>
        have hg : goC p c (stateL p no) = [noL p.1.toNat (doL p (stateL p no) c.2.2)] := if_pos hh
        rw [hg, if_pos rfl, List.map_cons, List.map_cons]
        simp only [Int.ofNat_eq_natCast, Int.toNat_natCast, e]
        rfl
      | false =>
        have hg : goC p c (stateL p no) = [] := if_neg (by show ¬ holdsB _ _ _ = true; rw [hh]; simp)
        rw [hg, if_neg (by simp)]
        rfl
  have := key p.2.2.2.2 0 (by simp)
  rw [enabL, List.range_eq_range']
  exact this
theorem enabL_in {p : DProgram} (no : Int) : ∀ x ∈ enabL p no, ∃ k : Nat, x = (k : Int) ∧ k < p.2.2.2.2.length := by
  intro x hx
  obtain ⟨k, hk, rfl⟩ := List.mem_map.1 hx
  exact ⟨k, rfl, List.mem_range.1 (List.mem_filter.1 hk).1⟩
theorem l8Next_L0 {p : DProgram} (h : Ok p) (no : Int) (l : Bool × List Int) (hl : l.2.length ≤ 1000) (hin : ∀ x ∈ l.2, ∃ k : Nat, x = (k : Int) ∧ k < p.2.2.2.2.length) (d : Nat) : ∀ (i : Nat) (b : Bool) (o : List Int), i + d = l.2.length → o.length ≤ i →
    ∃ b', spec_l8Next_L0 no p (false, stateL p no) (b, o) l (l.2.length : Int) (i : Int) = some (b', ((l.2.drop i).map fun k => noL p.1.toNat (doL p (stateL p no) (p.2.2.2.2.getD k.toNat ((true, []), (true, []))).2.2)).foldl (fun o n => insL n o) o) := by
  have hs := stateL_of h.sml no
  induction d with
  | zero =>
    intro i b o hi ho
    rw [spec_l8Next_L0_eq, gF (by omega), List.drop_of_length_le (by omega)]
    exact ⟨b, rfl⟩
  | succ d ih =>
    intro i b o hi ho
    have hlt : i < l.2.length := by omega
    obtain ⟨k, hk1, hk⟩ := hin _ (List.getElem_mem hlt)
    have hm := List.getElem_mem hk
    have e2 : p.2.2.2.2.getD k ((true, []), (true, [])) = p.2.2.2.2[k] := by simp [List.getD_eq_getElem?_getD, hk]
    obtain ⟨f, e3⟩ := l1Put b o (noL p.1.toNat (doL p (stateL p no) (p.2.2.2.2[k]).2.2)) (by omega)
    have hlen := insL_length (noL p.1.toNat (doL p (stateL p no) (p.2.2.2.2[k]).2.2)) o
    obtain ⟨b', g⟩ := ih (i + 1) f _ (by omega) (by omega : (insL (noL p.1.toNat (doL p (stateL p no) (p.2.2.2.2[k]).2.2)) o).length ≤ i + 1)
    rw [spec_l8Next_L0_eq, gT (by omega), gT (by omega), gT (by omega), getD_at l.2 _ i hlt, hk1, l7Do h.sml h.good h.sm h.wf hs false k hk, some_bind, l7No h.sml (doL_of h.sml hs _ (h.wf.2 _ hm).2 (cmd_in h.good _ hm).2), some_bind, e3, some_bind, up1 i (by omega), bind_id, g, List.drop_eq_getElem_cons hlt, List.map_cons, List.foldl_cons, hk1, Int.toNat_natCast, e2]
    exact ⟨b', rfl⟩
theorem sortL_nil (l : List Int) : sortL l = [] ↔ l = [] := by
  constructor
  · intro h
    cases l with
    | nil => rfl
    | cons a l =>
      have := (sortL_mem (a :: l) a).2 List.mem_cons_self
      rw [h] at this
      cases this
  · rintro rfl; rfl
theorem l8Next {p : DProgram} (h : Ok p) (no : Int) (hn : 0 ≤ no ∧ no < 1000) : ∃ b, spec_l8Next p no = some (b, nextL p no) := by
  obtain ⟨b1, e1⟩ := l7Enabled h no
  have hmany := h.many
  have hle : (enabL p no).length ≤ 6 := by
    rw [enabL, List.length_map]
    refine Nat.le_trans (List.length_filter_le _ _) ?_
    simpa using hmany.2
  obtain ⟨b, q⟩ := l8Next_L0 h no (b1, enabL p no) (by simp only; omega) (enabL_in no) (enabL p no).length 0 true [] (by simp) (by simp)
  have q' : spec_l8Next_L0 no p (false, stateL p no) (true, []) (b1, enabL p no) ((enabL p no).length : Int) 0 = _ := q
  rw [spec_l8Next_eq, l7Of h.sml no hn, some_bind, e1, some_bind]
  simp only [q', some_bind, List.drop_zero]
  rw [← goL_enab]
  show ∃ b_1, (bif (((sortL (goL p no)).length : Int) == 0) then some (false, [no]) else some (b, sortL (goL p no))) = some (b_1, nextL p no)
  unfold nextL
  by_cases c : goL p no = []
  · rw [if_pos c, bT (by rw [c]; rfl)]
    exact ⟨false, rfl⟩
  · have h0 : sortL (goL p no) ≠ [] := fun hh => c ((sortL_nil _).1 hh)
    have : 0 < (sortL (goL p no)).length := List.length_pos_iff.2 h0
    rw [if_neg c, bF (beqF (by omega))]
    exact ⟨b, rfl⟩
/-- the loop of slices.DeleteFunc -/
theorem delete_loop {q : Int → Bool} {f : Bool} (n : Nat) (P : Int → Prop) (L : Bool × List Int → Int → Int → Option ((Bool × List Int) × Int))
    (hs : ∀ (s : List Int) (i j : Nat) (_ : i ≤ j) (h : j < s.length), s.length = n → (∀ x ∈ s, P x) → L (f, s) (i : Int) (j : Int) = bif !q s[j] then L (f, s.set i s[j]) ((i + 1 : Nat) : Int) ((j + 1 : Nat) : Int) else L (f, s) (i : Int) ((j + 1 : Nat) : Int))
    (he : ∀ (s : List Int) (i : Nat), s.length = n → L (f, s) (i : Int) (s.length : Int) = some ((f, s), (i : Int))) (d : Nat) :
    ∀ (i j : Nat) (s : List Int), i ≤ j → j + d = s.length → s.length = n → (∀ x ∈ s, P x) → ∃ (s' : List Int) (i' : Nat), L (f, s) (i : Int) (j : Int) = some ((f, s'), (i' : Int)) ∧ s'.length = n ∧ i' ≤ n ∧ s'.take i' = s.take i ++ (s.drop j).filter fun x => !q x := by
  induction d with
  | zero =>
    intro i j s hij hj hn hP
    obtain rfl : j = s.length := by omega
    exact ⟨s, i, he s i hn, hn, by omega, by simp⟩
  | succ d ih =>
    intro i j s hij hj hn hP
    have hlt : j < s.length := by omega
    rw [hs s i j hij hlt hn hP, List.drop_eq_getElem_cons hlt, List.filter_cons]
    cases hq : q s[j] with
    | true =>
      obtain ⟨s', i', h1, h2, h3, h4⟩ := ih i (j + 1) s (by omega) (by omega) hn hP
      exact ⟨s', i', by rw [Bool.not_true, cond_false, h1], h2, h3, by rw [h4, if_neg (by simp)]⟩
    | false =>
      obtain ⟨s', i', h1, h2, h3, h4⟩ := ih (i + 1) (j + 1) (s.set i s[j]) (by omega) (by rw [List.length_set]; omega) (by rw [List.length_set]; exact hn) (fun x hx => by
        rcases List.mem_or_eq_of_mem_set hx with hx | rfl
        · exact hP x hx
        · exact hP _ (List.getElem_mem hlt))
      refine ⟨s', i', by rw [Bool.not_false, cond_true, h1], h2, h3, ?_⟩
      rw [h4, if_pos (by simp), List.drop_set_of_lt (by omega)]
      have e : (s.set i s[j]).take (i + 1) = s.take i ++ [s[j]] := by
        rw [List.take_succ_eq_append_getElem (by rw [List.length_set]; omega), List.getElem_set_self, List.take_set_of_le (Nat.le_refl _)]
      rw [e, List.append_assoc]
      rfl
/-- slices.DeleteFunc -/
theorem delete_of {l : List Int} {q : Int → Bool} {f : Bool} (P : Int → Prop) (L : Bool × List Int → Int → Int → Option ((Bool × List Int) × Int)) (hl : l.length ≤ 1048576) (hP : ∀ x ∈ l, P x)
    (hs : ∀ (s : List Int) (i j : Nat) (_ : i ≤ j) (h : j < s.length), s.length = l.length → (∀ x ∈ s, P x) → L (f, s) (i : Int) (j : Int) = bif !q s[j] then L (f, s.set i s[j]) ((i + 1 : Nat) : Int) ((j + 1 : Nat) : Int) else L (f, s) (i : Int) ((j + 1 : Nat) : Int))
    (he : ∀ (s : List Int) (i : Nat), s.length = l.length → L (f, s) (i : Int) (s.length : Int) = some ((f, s), (i : Int)))
    {X : Option (Int ⊕ Unit)} (hX : X = some (bif l.any q then .inl (l.findIdx q : Int) else .inr ())) :
    ((X.bind fun r => match r with
      | .inl y => some y
      | .inr z => some (-1)).bind fun r =>
      bif (r == (-1)) then some (f, l) else (L (f, l) r (IntKind.i64.wrap (r + 1))).bind fun r1 =>
        bif decide (0 ≤ r1.2) then bif decide (r1.2 ≤ (r1.1.2.length : Int)) then bif decide (0 ≤ r1.2) then
        bif decide (r1.2 ≤ ((r1.1.2.take (Int.toNat r1.2) ++ (List.replicate (r1.1.2.length - (Int.toNat r1.2)) (0 : Int) ++ r1.1.2.drop r1.1.2.length)).length : Int)) then
        some (r1.1.1, (((r1.1.2.take (Int.toNat r1.2) ++ (List.replicate (r1.1.2.length - (Int.toNat r1.2)) (0 : Int) ++ r1.1.2.drop r1.1.2.length)).take (Int.toNat r1.2)).drop 0))
        else none else none else none else none) = some (f, l.filter fun x => !q x) := by
  rw [hX]
  cases ha : l.any q with
  | false =>
    have e : l.filter (fun x => !q x) = l := List.filter_eq_self.2 fun x hx => by
      have := List.any_eq_false.1 ha x hx
      simpa using this
    rw [e]
    rfl
  | true =>
    have hk : l.findIdx q < l.length := List.findIdx_lt_length.2 (List.any_eq_true.1 ha)
    generalize hkk : l.findIdx q = k at hk
    have hqk : q l[k] = true := by
      subst hkk
      exact List.findIdx_getElem (w := hk)
    have hlt : ∀ j (hj : j < k), q (l[j]'(by omega)) = false := by
      intro j hj
      have := List.not_of_lt_findIdx (p := q) (xs := l) (i := j) (by omega)
      simpa using this
    obtain ⟨s', i', h1, h2, h3, h4⟩ := delete_loop l.length P L hs he (l.length - (k + 1)) k (k + 1) l (by omega) (by omega) rfl hP
    have e : l.filter (fun x => !q x) = s'.take i' := by
      rw [h4]
      have e1 : l = l.take k ++ (l[k] :: l.drop (k + 1)) := by rw [← List.drop_eq_getElem_cons hk, List.take_append_drop]
      have e2 : (l.take k).filter (fun x => !q x) = l.take k := List.filter_eq_self.2 fun x hx => by
        obtain ⟨j, hj, rfl⟩ := List.getElem_of_mem hx
        have hj' : j < k := by simp at hj; omega
        rw [List.getElem_take, hlt j hj']
        rfl
      conv => lhs; rw [e1]
      rw [List.filter_append, e2, List.filter_cons, if_neg (by simp [hqk])]
    rw [cond_true, some_bind, some_bind, bF (beqF (by omega)), up1 k (by omega), h1, some_bind]
    simp only [Int.toNat_natCast]
    rw [gT (by omega), gT (by omega), gT (by omega), gT (by simp; omega), e]
    congr 2
    rw [List.drop_zero, List.take_append_of_le_length (by rw [List.length_take]; omega), List.take_take, Nat.min_self]
theorem cloneInt_F (l : List Int) (hl : l.length ≤ 1048576) : slices_Clone_int (false, l) = some (false, l) := by
  have hlim := lim_eq
  rw [slices_Clone_int_eq, cond_false, gT (by simp; omega), List.nil_append]
theorem l8After_L2 (p : DProgram) (t10 : Bool × List Int) (t11 t12 : Int) (r : Bool × List Int) (hr : r.2.length ≤ 1000) (d : Nat) : ∀ (i : Nat) (b : Bool) (o : List Int), i + d = r.2.length → o.length + d ≤ 1000000 →
    ∃ b', spec_l8After_L2 p (b, o) t10 t11 t12 r (r.2.length : Int) (i : Int) = some (b', (r.2.drop i).foldl (fun o n => insL n o) o) := by
  induction d with
  | zero =>
    intro i b o hi ho
    rw [spec_l8After_L2_eq, gF (by omega), List.drop_of_length_le (by omega)]
    exact ⟨b, rfl⟩
  | succ d ih =>
    intro i b o hi ho
    have hlt : i < r.2.length := by omega
    obtain ⟨f, e⟩ := l1Put b o (r.2[i]) (by omega)
    have hlen := insL_length (r.2[i]) o
    obtain ⟨b', g⟩ := ih (i + 1) f (insL (r.2[i]) o) (by omega) (by omega)
    rw [spec_l8After_L2_eq, gT (by omega), gT (by omega), gT (by omega), getD_at r.2 _ i hlt, e, some_bind, up1 i (by omega), bind_id, g, List.drop_eq_getElem_cons hlt]
    exact ⟨b', rfl⟩
theorem l8After_L0 {p : DProgram} (h : Ok p) (l : Bool × List Int) (hl : l.2.length ≤ 10000) (hn : ∀ x ∈ l.2, 0 ≤ x ∧ x < (manyS p : Int)) (d : Nat) : ∀ (i : Nat) (b : Bool) (o : List Int), i + d = l.2.length → o.length ≤ 32 * i →
    ∃ b', spec_l8After_L0 p (b, o) l (l.2.length : Int) (i : Int) = some (b', ((l.2.drop i).flatMap (nextL p)).foldl (fun o n => insL n o) o) := by
  have hm := manyS_in h.sml
  induction d with
  | zero =>
    intro i b o hi ho
    rw [spec_l8After_L0_eq, gF (by omega), List.drop_of_length_le (by omega)]
    exact ⟨b, rfl⟩
  | succ d ih =>
    intro i b o hi ho
    have hlt : i < l.2.length := by omega
    have hx := hn _ (List.getElem_mem hlt)
    have hlen := nextL_length h hx
    obtain ⟨f, e⟩ := l8Next h (l.2[i]) (by omega)
    obtain ⟨b2, e2⟩ := l8After_L2 p l (l.2.length : Int) (i : Int) (f, nextL p (l.2[i])) (by simp only; omega) (nextL p (l.2[i])).length 0 b o (by simp) (by omega)
    have e2' : spec_l8After_L2 p (b, o) l (l.2.length : Int) (i : Int) (f, nextL p (l.2[i])) ((nextL p (l.2[i])).length : Int) 0 = _ := e2
    have hlen2 := foldl_insL (nextL p (l.2[i])) o
    obtain ⟨b', g⟩ := ih (i + 1) b2 ((nextL p (l.2[i])).foldl (fun o n => insL n o) o) (by omega) (by omega)
    rw [spec_l8After_L0_eq, gT (by omega), gT (by omega), gT (by omega), getD_at l.2 _ i hlt, e, some_bind]
    simp only [e2', List.drop_zero, some_bind]
    rw [up1 i (by omega), bind_id, g, List.drop_eq_getElem_cons hlt, List.flatMap_cons, List.foldl_append]
    exact ⟨b', rfl⟩
theorem l8After {p : DProgram} (h : Ok p) (l : Bool × List Int) (hl : l.2.length ≤ 10000) (hn : ∀ x ∈ l.2, 0 ≤ x ∧ x < (manyS p : Int)) : ∃ b, spec_l8After p l = some (b, sortL (l.2.flatMap (nextL p))) := by
  obtain ⟨b, q⟩ := l8After_L0 h l hl hn l.2.length 0 true [] (by omega) (by simp)
  have q' : spec_l8After_L0 p (true, []) l (l.2.length : Int) 0 = _ := q
  rw [spec_l8After_eq, q', some_bind, List.drop_zero]
  exact ⟨b, rfl⟩
theorem nextsL_in {p : DProgram} (h : Ok p) (l : List Int) (hn : ∀ x ∈ l, 0 ≤ x ∧ x < (manyS p : Int)) : ∀ x ∈ l.flatMap (nextL p), 0 ≤ x ∧ x < (manyS p : Int) := by
  intro x hx
  obtain ⟨no, hno, hx⟩ := List.mem_flatMap.1 hx
  exact nextL_in h (hn no hno) x hx
theorem containsInt (l : Bool × List Int) (n : Int) (hl : l.2.length ≤ 1048576) : slices_Contains_int l n = some (l.2.any fun x => n == x) := by
  have h := loop_find l.2 (fun x => n == x) (fun i => slices_Index_int_L0 l n (l.2.length : Int) i) (fun i h => by
    rw [slices_Index_int_L0_eq, gT (by omega), gT (by omega), gT (by omega), getD_at l.2 _ i h, up1 i (by omega), bind_id]) (by rw [slices_Index_int_L0_eq, gF (by omega)])
  rw [slices_Contains_int_eq, slices_Index_int_eq]
  exact contains_of h
/-- a program and a view of its states -/
structure Sees (p : DProgram) (v : List Int) : Prop where
  ok : Ok p
  len : v.length = manyS p
  inn : ∀ x ∈ v, 0 ≤ x ∧ x ≤ 32
theorem Sees_of {p : DProgram} {v : List Int} (h : goodSight p v = true) (hs : SmProgram p) (hw : WfP p) : Sees p v := by
  obtain ⟨_, h2, h3⟩ := goodSight_in h
  simp only [goodSight, Bool.and_eq_true] at h
  exact ⟨Ok_of h.1 hs hw, h2, h3⟩
theorem Sees.manyV {p : DProgram} {v : List Int} (h : Sees p v) : 2 ≤ v.length ∧ v.length ≤ 32 := by
  have := manyS_in h.ok.sml
  rw [h.len]
  exact this
/-- the states of a class -/
def inL (v : List Int) (c : Int) : List Int := ((List.range v.length).filter fun i => v.getD i 0 == c).map Int.ofNat
theorem mem_inL {v : List Int} {c x : Int} : x ∈ inL v c ↔ (0 ≤ x ∧ x < (v.length : Int)) ∧ v.getD x.toNat 0 = c := by
  simp only [inL, List.mem_map, List.mem_filter, List.mem_range, beq_iff_eq]
  constructor
  · rintro ⟨i, ⟨h1, h2⟩, rfl⟩
    exact ⟨⟨Int.natCast_nonneg _, by simp; omega⟩, by simpa using h2⟩
  · rintro ⟨⟨h1, h2⟩, h3⟩
    exact ⟨x.toNat, ⟨by omega, h3⟩, Int.toNat_of_nonneg h1⟩
theorem Sees.inClass {p : DProgram} {v : List Int} (h : Sees p v) (c : Int) : ∀ x ∈ inL v c, 0 ≤ x ∧ x < (manyS p : Int) := fun x hx => by
  have := (mem_inL.1 hx).1
  rw [h.len] at this
  exact this
/-- the states that can come at each place of a path of classes -/
noncomputable def alongL (p : DProgram) (v : List Int) : List Int → List Int → List (List Int)
  | _, [] => []
  | now, c :: path => (now.filter fun s => v.getD s.toNat 0 == c) :: alongL p v (sortL ((now.filter fun s => v.getD s.toNat 0 == c).flatMap (nextL p))) path
theorem alongL_length (p : DProgram) (v : List Int) (path : List Int) : ∀ now, (alongL p v now path).length = path.length := by
  induction path with
  | nil => intro now; rfl
  | cons c path ih => intro now; simp [alongL, ih]
/-- numbers of states, few enough -/
def InS (p : DProgram) (l : List Int) : Prop := l.length ≤ manyS p ∧ ∀ x ∈ l, 0 ≤ x ∧ x < (manyS p : Int)
theorem InS.filter {p : DProgram} {l : List Int} (h : InS p l) (q : Int → Bool) : InS p (l.filter q) := ⟨Nat.le_trans (List.length_filter_le _ _) h.1, fun x hx => h.2 x (List.mem_filter.1 hx).1⟩
theorem InS.next {p : DProgram} {l : List Int} (hok : Ok p) (h : InS p l) : InS p (sortL (l.flatMap (nextL p))) := by
  have hx : ∀ x ∈ sortL (l.flatMap (nextL p)), 0 ≤ x ∧ x < (manyS p : Int) := fun x hx => nextsL_in hok l h.2 x ((sortL_mem _ x).1 hx)
  exact ⟨Rising_length (sortL_rising _) hx, hx⟩
theorem alongL_in {p : DProgram} (hok : Ok p) (v : List Int) (path : List Int) : ∀ now, InS p now → ∀ l ∈ alongL p v now path, InS p l := by
  induction path with
  | nil => intro now _ l hl; cases hl
  | cons c path ih =>
    intro now hn l hl
    rcases List.mem_cons.1 hl with rfl | hl
    · exact hn.filter _
    · exact ih _ ((hn.filter _).next hok) l hl
theorem InS_those {p : DProgram} (t : List DNode) : InS p (thoseL p t 0 (manyS p)) := ⟨thoseL_length p t 0 (manyS p), fun x hx => (mem_thoseL.1 hx).1⟩
/-! the reference -/
theorem l19Along_L2 {p : DProgram} {v : List Int} (h : Sees p v) (f : Bool) (out : Bool × List (Bool × List Int)) (c : Int) (t18 : Bool × List Int) (t19 t20 : Int) (l : Bool × List Int) (hl : InS p l.2) (d : Nat) : ∀ (i : Nat) (o : List Int), i + d = l.2.length → o.length ≤ i →
    spec_l19Along_L2 p (f, v) out c (o.isEmpty, o) t18 t19 t20 l (l.2.length : Int) (i : Int) = some ((o ++ (l.2.drop i).filter fun s => v.getD s.toNat 0 == c).isEmpty, o ++ (l.2.drop i).filter fun s => v.getD s.toNat 0 == c) := by
  have hlim := lim_eq
  have hms := manyS_in h.ok.sml
  have hlen := h.len
  have hl1 := hl.1
  induction d with
  | zero =>
    intro i o hi ho
    rw [spec_l19Along_L2_eq, gF (by omega), List.drop_of_length_le (by omega)]
    simp
  | succ d ih =>
    intro i o hi ho
    have hlt : i < l.2.length := by omega
    have hx := hl.2 _ (List.getElem_mem hlt)
    rw [spec_l19Along_L2_eq, gT (by omega), gT (by omega), gT (by omega), getD_at l.2 _ i hlt, gT hx.1, gT (by simp only; omega), up1 i (by omega), List.drop_eq_getElem_cons hlt, List.filter_cons]
    simp only
    cases hh : (v.getD (Int.toNat l.2[i]) 0 == c) with
    | true =>
      have e := ih (i + 1) (o ++ [l.2[i]]) (by omega) (by simp; omega)
      have e0 : (o ++ [l.2[i]]).isEmpty = false := by simp
      rw [e0] at e
      rw [cond_true, gT (by simp; omega), bind_id, Bool.and_false, e]
      simp
    | false =>
      rw [cond_false, bind_id, ih (i + 1) o (by omega) (by omega)]
      simp
theorem l19Along_L0 {p : DProgram} {v : List Int} (h : Sees p v) (f : Bool) (path : Bool × List Int) (hp : path.2.length ≤ 1048576) (d : Nat) : ∀ (i : Nat) (b fn : Bool) (o : List (Bool × List Int)) (now : List Int), i + d = path.2.length → o.length ≤ i → InS p now →
    ∃ b', spec_l19Along_L0 p (f, v) (b, o) (fn, now) path (path.2.length : Int) (i : Int) = some (b', o ++ (alongL p v now (path.2.drop i)).map fun l => (l.isEmpty, l)) := by
  have hlim := lim_eq
  have hms := manyS_in h.ok.sml
  induction d with
  | zero =>
    intro i b fn o now hi ho hn
    rw [spec_l19Along_L0_eq, gF (by omega), List.drop_of_length_le (by omega)]
    exact ⟨b, by simp [alongL]⟩
  | succ d ih =>
    intro i b fn o now hi ho hn
    have hlt : i < path.2.length := by omega
    have e := l19Along_L2 h f (b, o) (path.2[i]) path (path.2.length : Int) (i : Int) (fn, now) hn now.length 0 [] (by simp) (by simp)
    have e' : spec_l19Along_L2 p (f, v) (b, o) (path.2[i]) (true, []) path (path.2.length : Int) (i : Int) (fn, now) (now.length : Int) 0 = _ := e
    rw [List.nil_append, List.drop_zero] at e'
    have hn2 := hn.filter (fun s => v.getD s.toNat 0 == path.2[i])
    obtain ⟨b2, e2⟩ := l8After h.ok ((now.filter fun s => v.getD s.toNat 0 == path.2[i]).isEmpty, now.filter fun s => v.getD s.toNat 0 == path.2[i]) (by have := hn2.1; simp only; omega) hn2.2
    obtain ⟨b', g⟩ := ih (i + 1) (b && false) b2 (o ++ [((now.filter fun s => v.getD s.toNat 0 == path.2[i]).isEmpty, now.filter fun s => v.getD s.toNat 0 == path.2[i])]) _ (by omega) (by simp; omega) (hn2.next h.ok)
    refine ⟨b', ?_⟩
    rw [spec_l19Along_L0_eq, gT (by omega), gT (by omega), gT (by omega), getD_at path.2 _ i hlt]
    simp only [e', some_bind]
    rw [gT (by simp; omega), e2, some_bind, up1 i (by omega), bind_id, g, List.drop_eq_getElem_cons hlt, alongL]
    simp
theorem l19Along {p : DProgram} {v : List Int} (h : Sees p v) (f : Bool) (path : Bool × List Int) (hp : path.2.length ≤ 1048576) : ∃ b, spec_l19Along p (f, v) path = some (b, (alongL p v (thoseL p p.2.2.1.2 0 (manyS p)) path.2).map fun l => (l.isEmpty, l)) := by
  have hg := h.ok.good
  have hk : kindT p.1 p.2.1 p.2.2.1.2 ≠ 0 := by
    simp only [goodProgram, Bool.and_eq_true, beq_iff_eq] at hg
    rw [hg.1]
    decide
  obtain ⟨b1, e1⟩ := l8Those h.ok.sml p.2.2.1 h.ok.wf.1 hk
  obtain ⟨b2, e2⟩ := l19Along_L0 h f path hp path.2.length 0 true b1 [] _ (by omega) (by simp) (InS_those p.2.2.1.2)
  have e2' : spec_l19Along_L0 p (f, v) (true, []) (b1, thoseL p p.2.2.1.2 0 (manyS p)) path (path.2.length : Int) 0 = _ := e2
  rw [spec_l19Along_eq, e1, some_bind]
  simp only [e2', some_bind, List.nil_append, List.drop_zero]
  exact ⟨b2, rfl⟩
/-! the program -/
theorem where_F {p : DProgram} (hp : Sml p) (t : Bool × List DNode) (hx : WfN t.2) (hk : kindT p.1 p.2.1 t.2 ≠ 0) : impl_Program_where p t = some (false, thoseL p t.2 0 (manyS p)) := by
  have hm := manyS_in hp
  have hlim := lim_eq
  have key : ∀ (d i : Nat) (out : List Int), i + d = manyS p → out.length ≤ i → impl_Program_where_L0 t p (false, out) (manyS p : Int) (i : Int) = some (false, out ++ thoseL p t.2 i d) := by
    intro d
    induction d with
    | zero =>
      intro i out hi ho
      rw [impl_Program_where_L0_eq, gF (by omega)]
      simp [thoseL]
    | succ d ih =>
      intro i out hi ho
      rw [impl_Program_where_L0_eq, gT (by omega), stateOf hp _ (by omega), some_bind, (holds_at hp t hx hk _ _).2, some_bind, thoseL_succ, up1 i (by omega)]
      cases hh : holdsB p t.2 (i : Int) with
      | true => rw [cond_true, gT (by simp; omega), bind_id, Bool.and_false, ih (i + 1) _ (by omega) (by simp; omega)]; simp
      | false => rw [cond_false, bind_id, ih (i + 1) out (by omega) (by omega)]; simp
  have g := key (manyS p) 0 [] (by omega) (by simp)
  have g' : impl_Program_where_L0 t p (false, []) (manyS p : Int) 0 = _ := g
  rw [impl_Program_where_eq, states_many hp, some_bind, g', some_bind]
  rfl
theorem graphOf {p : DProgram} (h : Ok p) : impl_Program_graph p = some (false, (List.range (manyS p)).map fun s : Nat => (false, nextL p (s : Int))) := by
  have hm := manyS_in h.sml
  have hlim := lim_eq
  have key : ∀ (d i : Nat) (o : List (Bool × List Int)), i + d = manyS p → o.length = i → impl_Program_graph_L0 p (false, o) (manyS p : Int) (i : Int) = some (false, o ++ (List.range' i d).map fun s : Nat => (false, nextL p (s : Int))) := by
    intro d
    induction d with
    | zero =>
      intro i o hi ho
      rw [impl_Program_graph_L0_eq, gF (by omega)]
      simp
    | succ d ih =>
      intro i o hi ho
      rw [impl_Program_graph_L0_eq, gT (by omega), nextOf h _ (by omega), some_bind, gT (by simp; omega), up1 i (by omega), bind_id, Bool.and_false, ih (i + 1) _ (by omega) (by simp; omega), List.range'_succ]
      simp
  have g := key (manyS p) 0 [] (by omega) rfl
  have g' : impl_Program_graph_L0 p (false, []) (manyS p : Int) 0 = _ := g
  rw [impl_Program_graph_eq, states_many h.sml, some_bind, g', some_bind, List.range_eq_range']
  rfl
/-- the successors of each state, as the program keeps them -/
noncomputable def graphP (p : DProgram) : List (Bool × List Int) := (List.range (manyS p)).map fun s : Nat => (false, nextL p (s : Int))
theorem graphP_length (p : DProgram) : (graphP p).length = manyS p := by simp [graphP]
theorem graphP_at {p : DProgram} {no : Int} (hn : 0 ≤ no ∧ no < (manyS p : Int)) : (graphP p).getD no.toNat (true, []) = (false, nextL p no) := by
  have h : no.toNat < manyS p := by omega
  have e : ((no.toNat : Nat) : Int) = no := Int.toNat_of_nonneg hn.1
  rw [graphP, List.getD_eq_getElem?_getD, List.getElem?_map, List.getElem?_range h]
  simp [e]
theorem along_L4 {p : DProgram} (v : DSight) (out nx : Bool × List (Bool × List Int)) (c : Int) (t24 : Bool × List Int) (t25 t26 : Int) (t36 : Bool × List Int) (t37 t38 : Int) (m : Nat) (r : Bool × List Int) (hr : r.2.length ≤ 1048576) (hi : ∀ x ∈ r.2, 0 ≤ x ∧ x < (m : Int)) (d : Nat) : ∀ (i : Nat) (t : List Bool), i + d = r.2.length → t.length = m →
    ∃ t', t'.length = m ∧ (∀ j < m, t'.getD j false = (t.getD j false || decide ((j : Int) ∈ r.2.drop i))) ∧ impl_statesAlong_L4 p v out nx c (false, t) t24 t25 t26 t36 t37 t38 r (r.2.length : Int) (i : Int) = some (false, t') := by
  induction d with
  | zero =>
    intro i t hid ht
    refine ⟨t, ht, fun j _ => ?_, by rw [impl_statesAlong_L4_eq, gF (by omega)]⟩
    rw [List.drop_of_length_le (by omega)]
    simp
  | succ d ih =>
    intro i t hid ht
    have hlt : i < r.2.length := by omega
    have hx := hi _ (List.getElem_mem hlt)
    obtain ⟨t', h1, h2, h3⟩ := ih (i + 1) (t.set (Int.toNat r.2[i]) true) (by omega) (by rw [List.length_set]; exact ht)
    refine ⟨t', h1, fun j hj => ?_, ?_⟩
    · rw [h2 j hj, List.drop_eq_getElem_cons hlt]
      by_cases cj : (j : Int) = r.2[i]
      · have e1 : Int.toNat r.2[i] = j := by omega
        have h5 : decide ((j : Int) ∈ r.2[i] :: r.2.drop (i + 1)) = true := decide_eq_true (by rw [← cj]; exact List.mem_cons_self)
        rw [h5, e1, getD_set_self t j true false (by omega), Bool.true_or, Bool.or_true]
      · have hne : Int.toNat r.2[i] ≠ j := by omega
        have e2 : (t.set (Int.toNat r.2[i]) true).getD j false = t.getD j false := by
          rw [List.getD_eq_getElem?_getD, List.getElem?_set_ne hne, List.getD_eq_getElem?_getD]
        rw [e2]
        congr 1
        exact decide_eq_decide.mpr ⟨List.mem_cons_of_mem _, fun h => (List.mem_cons.1 h).resolve_left cj⟩
    · rw [impl_statesAlong_L4_eq, gT (by omega), gT (by omega), gT (by omega), getD_at r.2 _ i hlt, gT hx.1, gT (by simp only; omega), up1 i (by omega), bind_id, h3]
theorem along_L2 {p : DProgram} (h : Ok p) (v : DSight) (out : Bool × List (Bool × List Int)) (c : Int) (t24 : Bool × List Int) (t25 t26 : Int) (l : Bool × List Int) (hl : InS p l.2) (d : Nat) : ∀ (i : Nat) (t : List Bool), i + d = l.2.length → t.length = manyS p →
    ∃ t', t'.length = manyS p ∧ (∀ j < manyS p, t'.getD j false = (t.getD j false || decide ((j : Int) ∈ (l.2.drop i).flatMap (nextL p)))) ∧ impl_statesAlong_L2 p v out (false, graphP p) c (false, t) t24 t25 t26 l (l.2.length : Int) (i : Int) = some (false, t') := by
  have hms := manyS_in h.sml
  have hl1 := hl.1
  have hg := graphP_length p
  induction d with
  | zero =>
    intro i t hid ht
    refine ⟨t, ht, fun j _ => ?_, by rw [impl_statesAlong_L2_eq, gF (by omega)]⟩
    rw [List.drop_of_length_le (by omega)]
    simp
  | succ d ih =>
    intro i t hid ht
    have hlt : i < l.2.length := by omega
    have hx := hl.2 _ (List.getElem_mem hlt)
    have hnl := nextL_length h hx
    obtain ⟨t1, g1, g2, g3⟩ := along_L4 v out (false, graphP p) c t24 t25 t26 l (l.2.length : Int) (i : Int) (manyS p) (false, nextL p l.2[i]) (by simp only; omega) (nextL_in h hx) (nextL p l.2[i]).length 0 t (by simp) ht
    have g3' : impl_statesAlong_L4 p v out (false, graphP p) c (false, t) t24 t25 t26 l (l.2.length : Int) (i : Int) (false, nextL p l.2[i]) ((nextL p l.2[i]).length : Int) 0 = _ := g3
    obtain ⟨t', h1, h2, h3⟩ := ih (i + 1) t1 (by omega) g1
    refine ⟨t', h1, fun j hj => ?_, ?_⟩
    · rw [h2 j hj, g2 j hj, List.drop_zero, List.drop_eq_getElem_cons hlt, List.flatMap_cons, Bool.or_assoc]
      congr 1
      rw [← Bool.decide_or]
      exact decide_eq_decide.mpr List.mem_append.symm
    · rw [impl_statesAlong_L2_eq, gT (by omega), gT (by omega), gT (by omega), getD_at l.2 _ i hlt, gT hx.1, gT (by simp only; omega)]
      simp only [graphP_at hx, g3', some_bind]
      rw [up1 i (by omega), bind_id, h3]
theorem statesAlong_1 {p : DProgram} {v : List Int} (h : Sees p v) (f : Bool) (c no : Int) (hn : 0 ≤ no ∧ no < (manyS p : Int)) : impl_statesAlong_1 no (f, v) c = some (!(v.getD no.toNat 0 == c)) := by
  have := h.len
  rw [impl_statesAlong_1_eq, gT hn.1, gT (by simp only; omega)]
  rfl
theorem delete_along {p : DProgram} {v : List Int} (h : Sees p v) (f : Bool) (c : Int) (l : Bool × List Int) (hl : l.2.length ≤ 1048576) (hn : ∀ x ∈ l.2, 0 ≤ x ∧ x < (manyS p : Int)) : slices_DeleteFunc_int_by_statesAlong_1 l ((f, v), (c, ())) = some (l.1, l.2.filter fun s => v.getD s.toNat 0 == c) := by
  have hX := loop_find l.2 (fun s => !(v.getD s.toNat 0 == c)) (fun i => slices_IndexFunc_int_by_statesAlong_1_L0 l ((f, v), (c, ())) (l.2.length : Int) i) (fun i hi => by
    rw [slices_IndexFunc_int_by_statesAlong_1_L0_eq, gT (by omega), gT (by omega), gT (by omega), getD_at l.2 _ i hi, statesAlong_1 h f c _ (hn _ (List.getElem_mem hi)), some_bind, up1 i (by omega), bind_id]) (by rw [slices_IndexFunc_int_by_statesAlong_1_L0_eq, gF (by omega)])
  have e : l.2.filter (fun s => v.getD s.toNat 0 == c) = l.2.filter (fun s => !!(v.getD s.toNat 0 == c)) := by
    congr 1
    funext x
    rw [Bool.not_not]
  rw [slices_DeleteFunc_int_by_statesAlong_1_eq, slices_IndexFunc_int_by_statesAlong_1_eq, e]
  exact delete_of (f := l.1) (fun x => 0 ≤ x ∧ x < (manyS p : Int)) (fun s i j => slices_DeleteFunc_int_by_statesAlong_1_L0 s ((f, v), (c, ())) i j) hl hn (fun s i j hij hj hn2 hP => by
    rw [slices_DeleteFunc_int_by_statesAlong_1_L0_eq, gT (by simp only; omega), gT (by omega), gT (by simp only; omega), getD_at s _ j hj, statesAlong_1 h f c _ (hP _ (List.getElem_mem hj)), some_bind, gT (by omega), gT (by simp only; omega), up1 j (by omega), up1 i (by omega), bind_id, bind_id, Int.toNat_natCast]) (fun s i hn => by rw [slices_DeleteFunc_int_by_statesAlong_1_L0_eq, gF (by simp only; omega)]) hX
/-- the marked states, read off -/
theorem along_marks {p : DProgram} (h : Ok p) (now : List Int) (hn : InS p now) (t : List Bool) (h1 : t.length = manyS p) (h2 : ∀ j < manyS p, t.getD j false = decide ((j : Int) ∈ now.flatMap (nextL p))) : impl_marked (false, t) = some (false, sortL (now.flatMap (nextL p))) := by
  have hms := manyS_in h.sml
  rw [marked (false, t) (by simp only; omega)]
  congr 2
  symm
  rw [show ((false, t) : Bool × List Bool).2.length = manyS p from h1]
  refine rising_filter _ (sortL_rising _) (manyS p) (fun x hx => nextsL_in h now hn.2 x ((sortL_mem _ x).1 hx)) _ (fun i hi => ?_)
  rw [h2 i hi]
  exact decide_eq_decide.mpr (sortL_mem _ _).symm
theorem along_L0 {p : DProgram} {v : List Int} (h : Sees p v) (f : Bool) (path : Bool × List Int) (hp : path.2.length ≤ 1048576) (d : Nat) : ∀ (i : Nat) (o : List (Bool × List Int)) (now : List Int), i + d = path.2.length → o.length ≤ i → InS p now →
    impl_statesAlong_L0 p (f, v) (false, o) (false, graphP p) (false, now) path (path.2.length : Int) (i : Int) = some (false, o ++ (alongL p v (if i = 0 then now else sortL (now.flatMap (nextL p))) (path.2.drop i)).map fun l => (false, l)) := by
  have hlim := lim_eq
  have hms := manyS_in h.ok.sml
  induction d with
  | zero =>
    intro i o now hi ho hn
    rw [impl_statesAlong_L0_eq, gF (by omega), List.drop_of_length_le (by omega)]
    simp [alongL]
  | succ d ih =>
    intro i o now hi ho hn
    have hlt : i < path.2.length := by omega
    have hn1 := hn.1
    rw [impl_statesAlong_L0_eq, gT (by omega), gT (by omega), gT (by omega), getD_at path.2 _ i hlt, List.drop_eq_getElem_cons hlt, alongL, up1 i (by omega)]
    by_cases c0 : i = 0
    · have hn2 := hn.filter (fun s => v.getD s.toNat 0 == path.2[i])
      have hn3 := hn2.1
      have hd : slices_DeleteFunc_int_by_statesAlong_1 (false, now) ((f, v), (path.2[i], ())) = some (false, now.filter fun s => v.getD s.toNat 0 == path.2[i]) := delete_along h f (path.2[i]) (false, now) (by simp only; omega) hn.2
      rw [gF (by omega), if_pos c0, hd, some_bind, cloneInt_F _ (by simp only; omega), some_bind, gT (by simp; omega), bind_id, Bool.and_false, ih (i + 1) _ _ (by omega) (by simp; omega) hn2, if_neg (by omega)]
      simp
    · have hnx := hn.next h.ok
      have hn2 := hnx.filter (fun s => v.getD s.toNat 0 == path.2[i])
      have hn3 := hn2.1
      have hn4 := hnx.1
      obtain ⟨t, t1, t2, t3⟩ := along_L2 h.ok (f, v) (false, o) (path.2[i]) path (path.2.length : Int) (i : Int) (false, now) hn now.length 0 (List.replicate (manyS p) false) (by simp) (by simp)
      have t3' : impl_statesAlong_L2 p (f, v) (false, o) (false, graphP p) (path.2[i]) (false, List.replicate (manyS p) false) path (path.2.length : Int) (i : Int) (false, now) (now.length : Int) 0 = _ := t3
      have hmk := along_marks h.ok now hn t t1 (fun j hj => by
        rw [t2 j hj, List.drop_zero]
        have e : (List.replicate (manyS p) false).getD j false = false := by simp [List.getD_eq_getElem?_getD, List.getElem?_replicate, hj]
        rw [e, Bool.false_or])
      rw [gT (by omega), if_neg c0, states_many h.ok.sml, some_bind, gT (by omega), gT (by omega), gT (by omega), gT (by omega), Int.toNat_natCast]
      simp only [t3', some_bind, hmk]
      have hd : slices_DeleteFunc_int_by_statesAlong_1 (false, sortL (now.flatMap (nextL p))) ((f, v), (path.2[i], ())) = some (false, (sortL (now.flatMap (nextL p))).filter fun s => v.getD s.toNat 0 == path.2[i]) := delete_along h f (path.2[i]) (false, sortL (now.flatMap (nextL p))) (by simp only; omega) hnx.2
      rw [hd, some_bind, cloneInt_F _ (by simp only; omega), some_bind, gT (by simp; omega), bind_id, Bool.and_false, ih (i + 1) _ _ (by omega) (by simp; omega) hn2, if_neg (by omega)]
      simp
theorem statesAlong {p : DProgram} {v : List Int} (h : Sees p v) (f : Bool) (path : Bool × List Int) (hp : path.2.length ≤ 1048576) : impl_statesAlong p (f, v) path = some (false, (alongL p v (thoseL p p.2.2.1.2 0 (manyS p)) path.2).map fun l => (false, l)) := by
  have hg := h.ok.good
  have hk : kindT p.1 p.2.1 p.2.2.1.2 ≠ 0 := by
    simp only [goodProgram, Bool.and_eq_true, beq_iff_eq] at hg
    rw [hg.1]
    decide
  have e := along_L0 h f path hp path.2.length 0 [] _ (by omega) (by simp) (InS_those p.2.2.1.2)
  have e' : impl_statesAlong_L0 p (f, v) (false, []) (false, graphP p) (false, thoseL p p.2.2.1.2 0 (manyS p)) path (path.2.length : Int) 0 = _ := e
  rw [impl_statesAlong_eq, graphOf h.ok, some_bind, where_F h.ok.sml p.2.2.1 h.ok.wf.1 hk, some_bind]
  show ((impl_statesAlong_L0 p (f, v) (false, []) (false, graphP p) (false, thoseL p p.2.2.1.2 0 (manyS p)) path (path.2.length : Int) 0).bind fun r2 => some (r2.1, r2.2)) = _
  rw [e', some_bind, if_pos rfl, List.nil_append, List.drop_zero]
/-- the first place without states, -1 if there is none -/
def failI (A : List (List Int)) : Int := bif A.any (fun l => (l.length : Int) == 0) then (A.findIdx (fun l => (l.length : Int) == 0) : Int) else -1
theorem failsAt (A : List (List Int)) (g : List Int → Bool) (b : Bool) (hl : A.length ≤ 1048576) : impl_failsAt (b, A.map fun l => (g l, l)) = some (failI A) ∧ spec_l19Fails (b, A.map fun l => (g l, l)) = some (failI A) := by
  have e1 : ((A.map fun l => (g l, l)).any fun x : Bool × List Int => (x.2.length : Int) == 0) = A.any fun l => (l.length : Int) == 0 := by rw [List.any_map]; rfl
  have e2 : ((A.map fun l => (g l, l)).findIdx fun x : Bool × List Int => (x.2.length : Int) == 0) = A.findIdx fun l => (l.length : Int) == 0 := by rw [List.findIdx_map]; rfl
  constructor
  · have h := loop_find (A.map fun l => (g l, l)) (fun x => (x.2.length : Int) == 0) (fun i => slices_IndexFunc_int_by_failsAt_1_L0 (b, A.map fun l => (g l, l)) () ((A.map fun l => (g l, l)).length : Int) i) (fun i hi => by
      have hi' : i < A.length := by simpa using hi
      rw [slices_IndexFunc_int_by_failsAt_1_L0_eq, gT (by omega), gT (by omega), gT (by simp only; omega), getD_at (A.map fun l => (g l, l)) _ i hi, impl_failsAt_1_eq, some_bind, up1 i (by omega), bind_id]) (by rw [slices_IndexFunc_int_by_failsAt_1_L0_eq, gF (by omega)])
    rw [impl_failsAt_eq, slices_IndexFunc_int_by_failsAt_1_eq]
    simp only [h, some_bind, e1, e2, failI]
    cases A.any fun l => (l.length : Int) == 0 <;> rfl
  · have h := loop_find (A.map fun l => (g l, l)) (fun x => (x.2.length : Int) == 0) (fun i => spec_l19Fails_L0 (b, A.map fun l => (g l, l)) ((A.map fun l => (g l, l)).length : Int) i) (fun i hi => by
      have hi' : i < A.length := by simpa using hi
      rw [spec_l19Fails_L0_eq, gT (by omega), gT (by omega), gT (by simp only; omega), getD_at (A.map fun l => (g l, l)) _ i hi, up1 i (by omega), bind_id]) (by rw [spec_l19Fails_L0_eq, gF (by omega)])
    rw [spec_l19Fails_eq]
    simp only [h, some_bind, e1, e2, failI]
    cases A.any fun l => (l.length : Int) == 0 <;> rfl
theorem l19Path (p : DProgram) (hs : SmProgram p) (hw : WfP p) (v : DSight) (hv : v.2.length ≤ 1048576) (l : Bool × List Int) (hl : l.2.length ≤ 1048576) : spec_l19Path p v l = some (classPath p v.2 l.2 200) := by
  rw [spec_l19Path_eq, spec_goodSight p hs hw v hv, some_bind, classPath]
  cases h0 : goodSight p v.2 with
  | false => rfl
  | true =>
    obtain ⟨hp, hv2, hvi⟩ := goodSight_in h0
    rw [cond_true, l1In_eq, some_bind, Bool.true_and]
    by_cases c : 1 ≤ (l.2.length : Int) ∧ (l.2.length : Int) ≤ 200
    · rw [decide_eq_true c, cond_true, l19Classes v hv hvi l hl, some_bind, Bool.true_and]
    · rw [decide_eq_false c]
      rfl
theorem classPath_in {p : DProgram} {v l : List Int} {most : Int} (h : classPath p v l most = true) : goodSight p v = true ∧ 1 ≤ (l.length : Int) ∧ (l.length : Int) ≤ most ∧ ∀ x ∈ l, 0 ≤ x ∧ x ≤ manyC v - 1 := by
  simp only [classPath, Bool.and_eq_true, decide_eq_true_eq, List.all_eq_true] at h
  exact ⟨h.1, h.2.1.1, h.2.1.2, h.2.2⟩
theorem Sees.start {p : DProgram} {v : List Int} (h : Sees p v) : kindT p.1 p.2.1 p.2.2.1.2 ≠ 0 := by
  have hg := h.ok.good
  simp only [goodProgram, Bool.and_eq_true, beq_iff_eq] at hg
  rw [hg.1]
  decide
theorem find_idx {α : Type} (q : α → Bool) (l : List α) (h : l.findIdx q < l.length) : l.find? q = some (l[l.findIdx q]'h) := by
  induction l with
  | nil => simp at h
  | cons a l ih =>
    rw [List.find?_cons]
    cases hq : q a with
    | true => simp [List.findIdx_cons, hq]
    | false =>
      simp only [List.findIdx_cons, hq, cond_false, List.length_cons] at h ⊢
      rw [ih (by omega)]
      rfl
def rowAt (X : List (Bool × List Int)) (k : Nat) : List Int := (X.getD k (true, [])).2
/-- what some puts hand to a row -/
def pick (S : List (Nat × Int)) (k : Nat) : List Int := (S.filter fun e => e.1 == k).map Prod.snd
theorem pick_append (S S' : List (Nat × Int)) (k : Nat) : pick (S ++ S') k = pick S k ++ pick S' k := by
  simp [pick]
theorem pick_length (S : List (Nat × Int)) (k : Nat) : (pick S k).length ≤ S.length := by
  rw [pick, List.length_map]
  exact List.length_filter_le _ _
/-- rows, with some puts done -/
structure Did (X X' : List (Bool × List Int)) (S : List (Nat × Int)) : Prop where
  len : X'.length = X.length
  row : ∀ k : Nat, k < X.length → rowAt X' k = rowAt X k ++ pick S k
def Bnd (X : List (Bool × List Int)) (n : Nat) : Prop := ∀ k : Nat, k < X.length → (rowAt X k).length ≤ n
theorem Did.refl (X : List (Bool × List Int)) : Did X X [] := ⟨rfl, fun k _ => by simp [pick]⟩
theorem Did.trans {X X' X'' : List (Bool × List Int)} {S S' : List (Nat × Int)} (h : Did X X' S) (h' : Did X' X'' S') : Did X X'' (S ++ S') := by
  refine ⟨by rw [h'.len, h.len], fun k hk => ?_⟩
  rw [h'.row k (by rw [h.len]; exact hk), h.row k hk, pick_append, List.append_assoc]
theorem Did.bnd {X X' : List (Bool × List Int)} {S : List (Nat × Int)} (h : Did X X' S) {n : Nat} (hb : Bnd X n) : Bnd X' (n + S.length) := by
  intro k hk
  rw [h.len] at hk
  rw [h.row k hk, List.length_append]
  have := hb k hk
  have := pick_length S k
  omega
theorem Did.put {X : List (Bool × List Int)} {k : Nat} (hk : k < X.length) (b : Bool) (z : Int) : Did X (X.set k (b, rowAt X k ++ [z])) [(k, z)] := by
  refine ⟨List.length_set, fun j hj => ?_⟩
  by_cases e : k = j
  · subst e
    simp [rowAt, List.getD_eq_getElem?_getD, hk, pick]
  · have e' : (k == j) = false := by rw [beq_eq_false_iff_ne]; exact e
    simp [rowAt, List.getD_eq_getElem?_getD, List.getElem?_set_ne e, pick, e']
theorem findIdx?_lt {α : Type} {K : List α} {q : α → Bool} {i : Nat} (h : K.findIdx? q = some i) : i < K.length := by
  rw [List.findIdx?_eq_some_iff_getElem] at h
  exact h.1
theorem findIdx?_more {α : Type} {K L : List α} {q : α → Bool} {i : Nat} (h : K.findIdx? q = some i) : (K ++ L).findIdx? q = some i := by
  rw [List.findIdx?_append, h]
  rfl
theorem findIdx?_new {α : Type} {K : List α} {q : α → Bool} {x : α} (h : K.findIdx? q = none) (hx : q x = true) : (K ++ [x]).findIdx? q = some K.length := by
  rw [List.findIdx?_append, h, List.findIdx?_cons, hx]
  simp
theorem findIdx?_at {α : Type} [BEq α] [LawfulBEq α] {K : List α} {x : α} {i : Nat} (h : K.findIdx? (fun y => x == y) = some i) : K[i]? = some x := by
  rw [List.findIdx?_eq_some_iff_getElem] at h
  obtain ⟨h1, h2, _⟩ := h
  rw [List.getElem?_eq_getElem h1]
  exact congrArg some (eq_of_beq h2).symm
theorem thoseL_rising (p : DProgram) (t : List DNode) (n : Nat) : Rising (thoseL p t 0 n) := by
  refine List.Pairwise.filter _ ?_
  rw [List.pairwise_map]
  exact (List.pairwise_lt_range' (s := 0) (n := n)).imp (fun h => Int.ofNat_lt.2 h)
/-- a step into some states -/
noncomputable def stepIn (p : DProgram) (c : List Int) (s : Int) : Bool := (nextL p s).any fun x => c.any fun y => y == x
/-- the rows of a way, without what leads nowhere -/
noncomputable def canL (p : DProgram) : List (List Int) → List (List Int)
  | [] => []
  | l :: A => (match canL p A with
    | [] => l
    | c :: _ => l.filter (stepIn p c)) :: canL p A
theorem canL_length (p : DProgram) (A : List (List Int)) : (canL p A).length = A.length := by
  induction A with
  | nil => rfl
  | cons l A ih => simp [canL, ih]
theorem canL_cons {p : DProgram} {l c : List Int} {A C : List (List Int)} (h : canL p A = c :: C) : canL p (l :: A) = l.filter (stepIn p c) :: c :: C := by
  simp only [canL, h]
/-- the first step into each row -/
noncomputable def walkL (p : DProgram) : Int → List (List Int) → List Int
  | _, [] => []
  | s, c :: C => ((nextL p s).find? fun x => c.any fun y => y == x).getD 0 :: walkL p (((nextL p s).find? fun x => c.any fun y => y == x).getD 0) C
theorem walkL_length (p : DProgram) (C : List (List Int)) : ∀ s, (walkL p s C).length = C.length := by
  induction C with
  | nil => intro s; rfl
  | cons c C ih => intro s; simp [walkL, ih]
noncomputable def realL (p : DProgram) (A : List (List Int)) : List Int := match canL p A with
  | [] => []
  | c :: C => c.getD 0 0 :: walkL p (c.getD 0 0) C
theorem realL_length (p : DProgram) (A : List (List Int)) : (realL p A).length = A.length := by
  have h := canL_length p A
  unfold realL
  split
  · rename_i e
    rw [e] at h
    exact h
  · rename_i c C e
    rw [e] at h
    rw [← h, List.length_cons, List.length_cons, walkL_length]
/-- each state has one behind it -/
def Goes (p : DProgram) : Int → List (List Int) → Prop
  | _, [] => True
  | s, c :: C => stepIn p c s = true ∧ ∀ t ∈ c, Goes p t C
theorem canL_goes (p : DProgram) (A : List (List Int)) : ∀ c C, canL p A = c :: C → ∀ s ∈ c, Goes p s C := by
  induction A with
  | nil => intro c C h; cases h
  | cons l A ih =>
    intro c C h s hs
    cases hA : canL p A with
    | nil =>
      simp only [canL, hA, List.cons.injEq] at h
      rw [← h.2]
      trivial
    | cons d D =>
      rw [canL_cons hA, List.cons.injEq] at h
      obtain ⟨rfl, rfl⟩ := h
      exact ⟨(List.mem_filter.1 hs).2, fun t ht => ih d D hA t ht⟩
/-- each state has one ahead of it -/
def Linked (p : DProgram) : List (List Int) → Prop
  | [] => True
  | l :: A => (∀ m ∈ A.head?, ∀ t ∈ m, ∃ s ∈ l, t ∈ nextL p s) ∧ Linked p A
theorem canL_some {p : DProgram} (A : List (List Int)) : ∀ l, (∀ m ∈ l :: A, m ≠ []) → Linked p (l :: A) → ∃ c C, canL p (l :: A) = c :: C ∧ c ≠ [] ∧ ∀ x ∈ c, x ∈ l := by
  induction A with
  | nil => intro l h _; exact ⟨l, [], rfl, h l (by simp), fun x hx => hx⟩
  | cons m A ih =>
    intro l h hL
    obtain ⟨c, C, e, h1, h2⟩ := ih m (fun x hx => h x (List.mem_cons_of_mem _ hx)) hL.2
    refine ⟨_, _, canL_cons e, ?_, fun x hx => (List.mem_filter.1 hx).1⟩
    obtain ⟨t, ht⟩ := List.exists_mem_of_ne_nil _ h1
    obtain ⟨s, hs, hts⟩ := hL.1 m rfl t (h2 t ht)
    have : s ∈ l.filter (stepIn p c) := List.mem_filter.2 ⟨hs, List.any_eq_true.2 ⟨t, hts, List.any_eq_true.2 ⟨t, ht, by simp⟩⟩⟩
    intro hn
    rw [hn] at this
    cases this
theorem canL_row {p : DProgram} {Q : List Int → Prop} (hQ : ∀ l q, Q l → Q (l.filter q)) (A : List (List Int)) (h : ∀ l ∈ A, Q l) : ∀ c ∈ canL p A, Q c := by
  induction A with
  | nil => intro c hc; cases hc
  | cons l A ih =>
    intro c hc
    have ih' := ih fun m hm => h m (List.mem_cons_of_mem _ hm)
    cases hA : canL p A with
    | nil =>
      simp only [canL, hA, List.mem_singleton] at hc
      subst hc
      exact h c (by simp)
    | cons d D =>
      rw [canL_cons hA] at hc
      rcases List.mem_cons.1 hc with rfl | hc
      · exact hQ _ _ (h l (by simp))
      · exact ih' c (by rw [hA]; exact hc)
/-- the rows of a way of classes -/
theorem alongL_linked {p : DProgram} (v : List Int) (path : List Int) : ∀ now, Linked p (alongL p v now path) := by
  induction path with
  | nil => intro now; trivial
  | cons c path ih =>
    intro now
    refine ⟨fun m hm t ht => ?_, ih _⟩
    cases path with
    | nil => cases hm
    | cons c2 path =>
      simp only [alongL, List.head?_cons, Option.mem_some_iff] at hm
      subst hm
      have h1 := (List.mem_filter.1 ht).1
      rw [sortL_mem, List.mem_flatMap] at h1
      exact h1
theorem alongL_rising (p : DProgram) (v : List Int) (path : List Int) : ∀ now, Rising now → ∀ l ∈ alongL p v now path, Rising l := by
  induction path with
  | nil => intro now _ l hl; cases hl
  | cons c path ih =>
    intro now hn l hl
    rcases List.mem_cons.1 hl with rfl | hl
    · exact List.Pairwise.filter _ hn
    · exact ih _ (sortL_rising _) l hl
/-- the first of one rising list in another one is the first of that one in this one -/
theorem find_first {a : List Int} (ha : Rising a) (q : Int → Bool) {x : Int} (h : a.find? q = some x) : x ∈ a ∧ q x = true ∧ ∀ y ∈ a, q y = true → x ≤ y := by
  induction a with
  | nil => cases h
  | cons b a ih =>
    rw [List.find?_cons] at h
    have hp := List.pairwise_cons.1 ha
    cases hq : q b with
    | true =>
      rw [hq] at h
      obtain rfl := Option.some.inj h
      refine ⟨by simp, hq, fun y hy _ => ?_⟩
      rcases List.mem_cons.1 hy with rfl | hy
      · exact Int.le_refl _
      · exact Int.le_of_lt (hp.1 y hy)
    | false =>
      rw [hq] at h
      obtain ⟨h1, h2, h3⟩ := ih hp.2 h
      refine ⟨List.mem_cons_of_mem _ h1, h2, fun y hy hqy => ?_⟩
      rcases List.mem_cons.1 hy with rfl | hy
      · rw [hq] at hqy; cases hqy
      · exact h3 y hy hqy
theorem find_both {a c : List Int} (ha : Rising a) (hc : Rising c) : (c.find? fun x => a.any fun y => x == y) = a.find? fun x => c.any fun y => y == x := by
  have mem : ∀ {q : Int → Bool} {l : List Int} {z : Int}, z ∈ l → q z = true → ∃ x, l.find? q = some x := fun {q l z} h1 h2 => by
    cases h : l.find? q with
    | some x => exact ⟨x, rfl⟩
    | none =>
      have := List.find?_eq_none.1 h z h1
      exact absurd h2 this
  cases h : c.find? fun x => a.any fun y => x == y with
  | some x =>
    obtain ⟨h1, h2, h3⟩ := find_first hc _ h
    obtain ⟨y, hy, hxy⟩ := List.any_eq_true.1 h2
    have e : x = y := by simpa using hxy
    subst e
    obtain ⟨z, hz⟩ := mem (q := fun x => c.any fun y => y == x) hy (List.any_eq_true.2 ⟨x, h1, by simp⟩)
    obtain ⟨g1, g2, g3⟩ := find_first ha _ hz
    obtain ⟨w, hw, hwz⟩ := List.any_eq_true.1 g2
    have e : w = z := by simpa using hwz
    subst e
    have a1 := h3 w hw (List.any_eq_true.2 ⟨w, g1, by simp⟩)
    have a2 := g3 x hy (List.any_eq_true.2 ⟨x, h1, by simp⟩)
    rw [hz]
    congr 1
    omega
  | none =>
    cases hz : a.find? fun x => c.any fun y => y == x with
    | none => rfl
    | some z =>
      obtain ⟨g1, g2, g3⟩ := find_first ha _ hz
      obtain ⟨w, hw, hwz⟩ := List.any_eq_true.1 g2
      have e : w = z := by simpa using hwz
      subst e
      have := List.find?_eq_none.1 h w hw
      exact absurd (List.any_eq_true.2 ⟨w, g1, by simp⟩) this
theorem stepIn_find {p : DProgram} {c : List Int} {s : Int} (h : stepIn p c s = true) : ∃ t, ((nextL p s).find? fun x => c.any fun y => y == x) = some t ∧ t ∈ nextL p s ∧ t ∈ c := by
  obtain ⟨t, ht, h2⟩ := List.any_eq_true.1 h
  cases h3 : (nextL p s).find? fun x => c.any fun y => y == x with
  | none => exact absurd h2 (List.find?_eq_none.1 h3 t ht)
  | some x =>
    obtain ⟨h4, h5, _⟩ := find_first (nextL_rising p s) _ h3
    obtain ⟨w, hw, hwx⟩ := List.any_eq_true.1 h5
    have e : w = x := by simpa using hwx
    subst e
    exact ⟨w, rfl, h4, hw⟩
/-! the reference -/
theorem real_L2 {p : DProgram} (hok : Ok p) (along can : Bool × List (Bool × List Int)) (k : Nat) (hk : k < 1000000) (b : Bool) (c : List Int) (hc : (can.2.getD (k + 1) (true, [])) = (b, c)) (hkc : k + 1 < can.2.length) (hcl : c.length ≤ 1048576) (l : Bool × List Int) (hl : InS p l.2) (d : Nat) : ∀ (i : Nat) (o : List Int), i + d = l.2.length → o.length ≤ i →
    spec_l19Real_L2 along p can (k : Int) (o.isEmpty, o) l (l.2.length : Int) (i : Int) = some ((o ++ (l.2.drop i).filter (stepIn p c)).isEmpty, o ++ (l.2.drop i).filter (stepIn p c)) := by
  have hlim := lim_eq
  have hms := manyS_in hok.sml
  have hl1 := hl.1
  induction d with
  | zero =>
    intro i o hi ho
    rw [spec_l19Real_L2_eq, gF (by omega), List.drop_of_length_le (by omega)]
    simp
  | succ d ih =>
    intro i o hi ho
    have hlt : i < l.2.length := by omega
    have hx := hl.2 _ (List.getElem_mem hlt)
    obtain ⟨b1, e1⟩ := l8Next hok (l.2[i]) (by omega)
    have hnl := nextL_length hok hx
    have e2 := l7Meet (b1, nextL p l.2[i]) (b, c) (by simp only; omega) hcl
    rw [spec_l19Real_L2_eq, gT (by omega), gT (by omega), gT (by omega), getD_at l.2 _ i hlt, e1, some_bind, up1 k (by omega), gT (by omega), gT (by omega), Int.toNat_natCast, hc, e2, some_bind, up1 i (by omega), List.drop_eq_getElem_cons hlt, List.filter_cons]
    have ed : ((nextL p l.2[i]).any fun x => c.any fun y => y == x) = stepIn p c l.2[i] := rfl
    simp only [ed]
    cases hh : stepIn p c l.2[i] with
    | true =>
      have e := ih (i + 1) (o ++ [l.2[i]]) (by omega) (by simp; omega)
      have e0 : (o ++ [l.2[i]]).isEmpty = false := by simp
      rw [e0] at e
      rw [cond_true, gT (by simp; omega), bind_id, Bool.and_false, e]
      simp
    | false =>
      rw [cond_false, bind_id, ih (i + 1) o (by omega) (by omega)]
      simp
/-- rows with their marks of nil -/
def mkR (g : List Int → Bool) (A : List (List Int)) : List (Bool × List Int) := A.map fun l => (g l, l)
theorem mkR_length (g : List Int → Bool) (A : List (List Int)) : (mkR g A).length = A.length := by simp [mkR]
theorem mkR_at (g : List Int → Bool) (A : List (List Int)) {k : Nat} (h : k < A.length) : (mkR g A).getD k (true, []) = (g A[k], A[k]) := by simp [mkR, List.getD_eq_getElem?_getD, h]
theorem mkR_set (g : List Int → Bool) (A : List (List Int)) (k : Nat) (l : List Int) : (mkR g A).set k (g l, l) = mkR g (A.set k l) := by simp [mkR, List.map_set]
/-- a row is done: what is done begins one row earlier -/
theorem can_step {p : DProgram} (A : List (List Int)) (n : Nat) (h : n + 1 < A.length) : ∃ c C, canL p (A.drop (n + 1)) = c :: C ∧ (A.take (n + 1) ++ canL p (A.drop (n + 1)))[n + 1]? = some c ∧ (A.take (n + 1) ++ canL p (A.drop (n + 1)))[n]? = some A[n] ∧ (A.take (n + 1) ++ canL p (A.drop (n + 1))).set n (A[n].filter (stepIn p c)) = A.take n ++ canL p (A.drop n) := by
  have hl := canL_length p (A.drop (n + 1))
  cases e : canL p (A.drop (n + 1)) with
  | nil => rw [e, List.length_drop, List.length_nil] at hl; omega
  | cons c C =>
    have ht : (A.take (n + 1)).length = n + 1 := by rw [List.length_take]; omega
    refine ⟨c, C, rfl, ?_, ?_, ?_⟩
    · rw [List.getElem?_append_right (by omega), ht, Nat.sub_self]
      rfl
    · rw [List.getElem?_append_left (by omega), List.getElem?_take_of_lt (by omega), List.getElem?_eq_getElem (by omega)]
    · have e2 : A.take (n + 1) = A.take n ++ [A[n]] := List.take_succ_eq_append_getElem (by omega)
      have e3 : A.drop n = A[n] :: A.drop (n + 1) := List.drop_eq_getElem_cons (by omega)
      rw [e2, e3, canL_cons e, List.append_assoc, List.set_append_right _ _ (by rw [List.length_take]; omega)]
      have : n - (A.take n).length = 0 := by rw [List.length_take]; omega
      rw [this]
      rfl
theorem real_L0 {p : DProgram} (hok : Ok p) (b b2 : Bool) (A : List (List Int)) (hA : ∀ l ∈ A, InS p l) (hl : A.length ≤ 1000000) (n : Nat) : n + 1 ≤ A.length →
    spec_l19Real_L0 (b2, mkR List.isEmpty A) p (b, mkR List.isEmpty (A.take n ++ canL p (A.drop n))) ((n : Int) - 1) = some (b, mkR List.isEmpty (canL p A)) := by
  have hm := manyS_in hok.sml
  induction n with
  | zero =>
    intro _
    rw [spec_l19Real_L0_eq, gF (by omega)]
    rfl
  | succ n ih =>
    intro hn
    obtain ⟨c, C, e1, e2, e3, e4⟩ := can_step (p := p) A n (by omega)
    have hlen : (A.take (n + 1) ++ canL p (A.drop (n + 1))).length = A.length := by rw [List.length_append, canL_length, List.length_take, List.length_drop]; omega
    have hcI : InS p c := canL_row (p := p) (Q := InS p) (fun l q h => h.filter q) (A.drop (n + 1)) (fun l hl => hA l (List.mem_of_mem_drop hl)) c (by rw [e1]; simp)
    have hrow : InS p A[n] := hA _ (List.getElem_mem _)
    obtain ⟨h2, e2'⟩ := List.getElem?_eq_some_iff.1 e2
    have hat : (mkR List.isEmpty (A.take (n + 1) ++ canL p (A.drop (n + 1)))).getD (n + 1) (true, []) = (c.isEmpty, c) := by rw [mkR_at _ _ h2, e2']
    have e5 := real_L2 hok (b2, mkR List.isEmpty A) (b, mkR List.isEmpty (A.take (n + 1) ++ canL p (A.drop (n + 1)))) n (by omega) c.isEmpty c hat (by rw [mkR_length]; exact h2) (by have := hcI.1; omega) (A[n].isEmpty, A[n]) hrow A[n].length 0 [] (by simp) (by simp)
    have e5' : spec_l19Real_L2 (b2, mkR List.isEmpty A) p (b, mkR List.isEmpty (A.take (n + 1) ++ canL p (A.drop (n + 1)))) (n : Int) (true, []) (A[n].isEmpty, A[n]) (A[n].length : Int) 0 = _ := e5
    have ek : ((n + 1 : Nat) : Int) - 1 = (n : Int) := by omega
    rw [spec_l19Real_L0_eq, ek, gT (by omega), gT (by omega), gT (by simp only [mkR_length]; omega)]
    simp only [Int.toNat_natCast, mkR_at List.isEmpty A (show n < A.length by omega), e5', some_bind, List.nil_append, List.drop_zero]
    rw [gT (by omega), gT (by rw [mkR_length]; omega), mkR_set, e4, wr (by omega), bind_id, ih (by omega)]
theorem real_L6 {p : DProgram} (can : Bool × List (Bool × List Int)) (k : Nat) (hk : k < can.2.length) (b : Bool) (c : List Int) (hc : can.2.getD k (true, []) = (b, c)) (hcl : c.length ≤ 1048576) (out : List Int) (hout : out.length ≤ 1000000) (l : Bool × List Int) (hl : l.2.length ≤ 1048576) (t : Int) (d : Nat) : ∀ (i : Nat), i + d = l.2.length → ((l.2.drop i).find? fun x => c.any fun y => y == x) = some t →
    spec_l19Real_L6 p can (false, out) (k : Int) l (l.2.length : Int) (i : Int) = some (false, out ++ [t]) := by
  have hlim := lim_eq
  induction d with
  | zero =>
    intro i hi hf
    rw [List.drop_of_length_le (by omega)] at hf
    cases hf
  | succ d ih =>
    intro i hi hf
    have hlt : i < l.2.length := by omega
    rw [List.drop_eq_getElem_cons hlt, List.find?_cons] at hf
    rw [spec_l19Real_L6_eq, gT (by omega), gT (by omega), gT (by omega), getD_at l.2 _ i hlt, gT (by omega), gT (by omega), Int.toNat_natCast, hc, l1Has _ _ hcl, some_bind, up1 i (by omega)]
    simp only
    cases hh : c.any fun y => y == l.2[i] with
    | true =>
      rw [hh] at hf
      obtain rfl := Option.some.inj hf
      rw [cond_true, gT (by simp; omega), Bool.and_false]
    | false =>
      rw [hh] at hf
      rw [cond_false, bind_id, ih (i + 1) (by omega) hf]
theorem real_L4 {p : DProgram} (hok : Ok p) (b : Bool) (D : List (List Int)) (hD : ∀ l ∈ D, InS p l) (hl : D.length ≤ 1000000) (d : Nat) : ∀ (k : Nat) (o : List Int) (s : Int), k + d = D.length → o.length + 1 = k → (0 ≤ s ∧ s < (manyS p : Int)) → Goes p s (D.drop k) →
    spec_l19Real_L4 p (b, mkR List.isEmpty D) (false, o ++ [s]) (k : Int) = some (false, o ++ s :: walkL p s (D.drop k)) := by
  have hm := manyS_in hok.sml
  induction d with
  | zero =>
    intro k o s hk ho hs hg
    rw [spec_l19Real_L4_eq, gF (by simp only [mkR_length]; omega), List.drop_of_length_le (by omega)]
    rfl
  | succ d ih =>
    intro k o s hk ho hs hg
    have hlt : k < D.length := by omega
    have e0 : D.drop k = D[k] :: D.drop (k + 1) := List.drop_eq_getElem_cons hlt
    rw [e0] at hg
    obtain ⟨g1, g2⟩ := hg
    obtain ⟨t, t1, t2, t3⟩ := stepIn_find g1
    obtain ⟨b1, e1⟩ := l8Next hok s (by omega)
    have hrow := hD _ (List.getElem_mem hlt)
    have hnl := nextL_length hok hs
    have e2 := real_L6 (p := p) (b, mkR List.isEmpty D) k (by simp only [mkR_length]; omega) (D[k].isEmpty) D[k] (mkR_at _ _ hlt) (by have := hrow.1; omega) (o ++ [s]) (by simp; omega) (b1, nextL p s) (by simp only; omega) t (nextL p s).length 0 (by simp) (by rw [List.drop_zero]; exact t1)
    have e2' : spec_l19Real_L6 p (b, mkR List.isEmpty D) (false, o ++ [s]) (k : Int) (b1, nextL p s) ((nextL p s).length : Int) 0 = _ := e2
    have hget : (o ++ [s]).getD (k - 1) 0 = s := by
      rw [List.getD_eq_getElem?_getD, List.getElem?_append_right (by omega), show k - 1 - o.length = 0 by omega]
      rfl
    rw [spec_l19Real_L4_eq, gT (by simp only [mkR_length]; omega), dn1 k (by omega) (by omega), gT (by omega), gT (by simp; omega), Int.toNat_natCast, hget, e1, some_bind, e2', some_bind, up1 k (by omega), bind_id, ih (k + 1) (o ++ [s]) t (by omega) (by simp; omega) (hrow.2 t t3) (g2 t t3), e0, walkL, t1]
    simp
theorem l19Real {p : DProgram} (hok : Ok p) (b : Bool) (A : List (List Int)) (h1 : 1 ≤ A.length) (hl : A.length ≤ 1000000) (hA : ∀ l ∈ A, InS p l) (hne : ∀ l ∈ A, l ≠ []) (hL : Linked p A) : spec_l19Real p (b, A.map fun l => (l.isEmpty, l)) = some (false, realL p A) := by
  have hlim := lim_eq
  obtain ⟨l, A2, rfl⟩ : ∃ l A2, A = l :: A2 := by
    cases A with
    | nil => simp at h1
    | cons l A2 => exact ⟨l, A2, rfl⟩
  obtain ⟨c, C, e, c1, _⟩ := canL_some A2 l hne hL
  have hcan : ∀ m ∈ canL p (l :: A2), InS p m := canL_row (Q := InS p) (fun l q h => h.filter q) _ hA
  have hlast : ∀ (B : List (List Int)) (h : 1 ≤ B.length), B.take (B.length - 1) ++ canL p (B.drop (B.length - 1)) = B := by
    intro B h
    have e : B.drop (B.length - 1) = [B[B.length - 1]] := by
      rw [List.drop_eq_getElem_cons (by omega), List.drop_of_length_le (by omega)]
    have e2 : canL p (B.drop (B.length - 1)) = B.drop (B.length - 1) := by rw [e]; rfl
    rw [e2, List.take_append_drop]
  have e1 := real_L0 hok false b (l :: A2) hA hl ((l :: A2).length - 1) (by omega)
  rw [hlast _ h1] at e1
  obtain ⟨s, c', rfl⟩ : ∃ s c', c = s :: c' := by
    cases c with
    | nil => exact absurd rfl c1
    | cons s c' => exact ⟨s, c', rfl⟩
  have hs : 0 ≤ s ∧ s < (manyS p : Int) := (hcan (s :: c') (by rw [e]; simp)).2 s (by simp)
  have hgo := canL_goes p _ _ _ e s (by simp)
  have hlen := canL_length p (l :: A2)
  have e2 := real_L4 hok false (canL p (l :: A2)) hcan (by rw [hlen]; exact hl) ((l :: A2).length - 1) 1 [] s (by rw [hlen]; omega) rfl hs (by rw [e]; exact hgo)
  have e2' : spec_l19Real_L4 p (false, mkR List.isEmpty (canL p (l :: A2))) (false, [s]) 1 = _ := e2
  have ew : IntKind.i64.wrap ((((mkR List.isEmpty (l :: A2)).length : Nat) : Int) - 2) = (((l :: A2).length - 1 : Nat) : Int) - 1 := by
    rw [mkR_length, wr (by omega)]
    omega
  rw [spec_l19Real_eq, gT (by simp only [List.length_nil, List.length_map]; omega), List.nil_append]
  show ((spec_l19Real_L0 (b, mkR List.isEmpty (l :: A2)) p (false, mkR List.isEmpty (l :: A2)) (IntKind.i64.wrap ((((mkR List.isEmpty (l :: A2)).length : Nat) : Int) - 2))).bind fun r => _) = _
  rw [ew, e1, some_bind, gT (by rw [mkR_length, hlen]; omega)]
  have h0 : (mkR List.isEmpty (canL p (l :: A2))).getD 0 (true, []) = ((s :: c').isEmpty, s :: c') := by rw [e]; rfl
  simp only [h0]
  rw [gT (by simp only [List.length_cons]; omega)]
  simp only [List.getD_cons_zero, e2', some_bind]
  rw [realL, e]
  rfl
theorem beq_turn (c : List Int) (x : Int) : (c.any fun y => x == y) = c.any fun y => y == x := by
  congr 1
  funext y
  rw [Bool.eq_iff_iff, beq_iff_eq, beq_iff_eq]
  exact eq_comm
theorem holeAt_other {α : Type} (xs : List α) (i j : Nat) (z : α) (h : j < xs.length) (hne : j ≠ i) : (holeAt xs i).getD j none = some (xs.getD j z) := by
  have e : (j == i) = false := by simpa using hne
  simp [holeAt, List.getD_eq_getElem?_getD, List.getElem?_mapIdx, h, e]
theorem real_to (R : List (Bool × List Int)) (b : Bool) (k : Nat) (hk : k + 1 < R.length) (hl : R.length ≤ 1000000) (c : List Int) (f : Bool) (hc : R.getD (k + 1) (true, []) = (f, c)) (hcl : c.length ≤ 1048576) (to : Int) : impl_realPath_1_1_2 to (b, holeAt R k) (k : Int) = some (c.any fun y => y == to) := by
  have hlen : (holeAt R k).length = R.length := by simp [holeAt]
  rw [impl_realPath_1_1_2_eq, up1 k (by omega), gT (by omega), gT (by rw [hlen]; omega), Int.toNat_natCast, holeAt_other R k (k + 1) (true, []) hk (by omega), some_bind, hc, containsInt _ _ hcl, some_bind, beq_turn]
theorem contains_real (R : List (Bool × List Int)) (b : Bool) (k : Nat) (hk : k + 1 < R.length) (hl : R.length ≤ 1000000) (c : List Int) (f : Bool) (hc : R.getD (k + 1) (true, []) = (f, c)) (hcl : c.length ≤ 1048576) (l : Bool × List Int) (hll : l.2.length ≤ 1048576) : slices_ContainsFunc_int_by_realPath_1_1_2 l ((b, holeAt R k), ((k : Int), ())) = some (l.2.any fun x => c.any fun y => y == x) := by
  have h := loop_find l.2 (fun x => c.any fun y => y == x) (fun i => slices_IndexFunc_int_by_realPath_1_1_2_L0 l ((b, holeAt R k), ((k : Int), ())) (l.2.length : Int) i) (fun i hi => by
    rw [slices_IndexFunc_int_by_realPath_1_1_2_L0_eq, gT (by omega), gT (by omega), gT (by omega), getD_at l.2 _ i hi, real_to R b k hk hl c f hc hcl, some_bind, up1 i (by omega), bind_id]) (by rw [slices_IndexFunc_int_by_realPath_1_1_2_L0_eq, gF (by omega)])
  rw [slices_ContainsFunc_int_by_realPath_1_1_2_eq, slices_IndexFunc_int_by_realPath_1_1_2_eq]
  exact contains_of h
theorem real_1 {p : DProgram} (hok : Ok p) (gb : Bool) (R : List (Bool × List Int)) (b : Bool) (k : Nat) (hk : k + 1 < R.length) (hl : R.length ≤ 1000000) (c : List Int) (f : Bool) (hc : R.getD (k + 1) (true, []) = (f, c)) (hcl : c.length ≤ 1048576) (no : Int) (hn : 0 ≤ no ∧ no < (manyS p : Int)) : impl_realPath_1_2 no (gb, graphP p) (b, holeAt R k) (k : Int) = some (!stepIn p c no) := by
  have hg := graphP_length p
  have hms := manyS_in hok.sml
  have hnl := nextL_length hok hn
  rw [impl_realPath_1_2_eq, gT hn.1, gT (by simp only; omega)]
  simp only [graphP_at hn]
  rw [contains_real R b k hk hl c f hc hcl (false, nextL p no) (by simp only; omega), some_bind]
  rfl
theorem delete_real {p : DProgram} (hok : Ok p) (gb : Bool) (R : List (Bool × List Int)) (b : Bool) (k : Nat) (hk : k + 1 < R.length) (hl : R.length ≤ 1000000) (c : List Int) (f : Bool) (hc : R.getD (k + 1) (true, []) = (f, c)) (hcl : c.length ≤ 1048576) (l : Bool × List Int) (hll : l.2.length ≤ 1048576) (hn : ∀ x ∈ l.2, 0 ≤ x ∧ x < (manyS p : Int)) :
    slices_DeleteFunc_int_by_realPath_1_2 l ((gb, graphP p), ((b, holeAt R k), ((k : Int), ()))) = some (l.1, l.2.filter (stepIn p c)) := by
  have hX := loop_find l.2 (fun s => !stepIn p c s) (fun i => slices_IndexFunc_int_by_realPath_1_2_L0 l ((gb, graphP p), ((b, holeAt R k), ((k : Int), ()))) (l.2.length : Int) i) (fun i hi => by
    rw [slices_IndexFunc_int_by_realPath_1_2_L0_eq, gT (by omega), gT (by omega), gT (by omega), getD_at l.2 _ i hi, real_1 hok gb R b k hk hl c f hc hcl _ (hn _ (List.getElem_mem hi)), some_bind, up1 i (by omega), bind_id]) (by rw [slices_IndexFunc_int_by_realPath_1_2_L0_eq, gF (by omega)])
  have e : l.2.filter (stepIn p c) = l.2.filter (fun s => !!stepIn p c s) := by
    congr 1
    funext x
    rw [Bool.not_not]
  rw [slices_DeleteFunc_int_by_realPath_1_2_eq, slices_IndexFunc_int_by_realPath_1_2_eq, e]
  exact delete_of (f := l.1) (fun x => 0 ≤ x ∧ x < (manyS p : Int)) (fun s i j => slices_DeleteFunc_int_by_realPath_1_2_L0 s ((gb, graphP p), ((b, holeAt R k), ((k : Int), ()))) i j) hll hn (fun s i j hij hj hn2 hP => by
    rw [slices_DeleteFunc_int_by_realPath_1_2_L0_eq, gT (by simp only; omega), gT (by omega), gT (by simp only; omega), getD_at s _ j hj, real_1 hok gb R b k hk hl c f hc hcl _ (hP _ (List.getElem_mem hj)), some_bind, gT (by omega), gT (by simp only; omega), up1 j (by omega), up1 i (by omega), bind_id, bind_id, Int.toNat_natCast]) (fun s i hn => by rw [slices_DeleteFunc_int_by_realPath_1_2_L0_eq, gF (by simp only; omega)]) hX
theorem realP_L0 {p : DProgram} (hok : Ok p) (gb b : Bool) (last : Int) (A : List (List Int)) (hA : ∀ l ∈ A, InS p l) (hl : A.length ≤ 1000000) (n : Nat) : n + 1 ≤ A.length →
    impl_realPath_L0 (b, mkR (fun _ => false) (A.take n ++ canL p (A.drop n))) (gb, graphP p) last ((n : Int) - 1) = some (b, mkR (fun _ => false) (canL p A)) := by
  have hm := manyS_in hok.sml
  induction n with
  | zero =>
    intro _
    rw [impl_realPath_L0_eq, gF (by omega)]
    rfl
  | succ n ih =>
    intro hn
    obtain ⟨c, C, e1, e2, e3, e4⟩ := can_step (p := p) A n (by omega)
    have hlen : (A.take (n + 1) ++ canL p (A.drop (n + 1))).length = A.length := by rw [List.length_append, canL_length, List.length_take, List.length_drop]; omega
    have hcI : InS p c := canL_row (p := p) (Q := InS p) (fun l q h => h.filter q) (A.drop (n + 1)) (fun l hl => hA l (List.mem_of_mem_drop hl)) c (by rw [e1]; simp)
    have hrow : InS p A[n] := hA _ (List.getElem_mem _)
    obtain ⟨h2, e2'⟩ := List.getElem?_eq_some_iff.1 e2
    obtain ⟨h3, e3'⟩ := List.getElem?_eq_some_iff.1 e3
    have hat : (mkR (fun _ => false) (A.take (n + 1) ++ canL p (A.drop (n + 1)))).getD (n + 1) (true, []) = (false, c) := by rw [mkR_at _ _ h2, e2']
    have hat3 : (mkR (fun _ => false) (A.take (n + 1) ++ canL p (A.drop (n + 1)))).getD n (true, []) = (false, A[n]) := by rw [mkR_at _ _ h3, e3']
    have e5 := delete_real hok gb (mkR (fun _ => false) (A.take (n + 1) ++ canL p (A.drop (n + 1)))) b n (by rw [mkR_length]; exact h2) (by rw [mkR_length]; omega) c false hat (by have := hcI.1; omega) (false, A[n]) (by have := hrow.1; simp only; omega) hrow.2
    have ek : ((n + 1 : Nat) : Int) - 1 = (n : Int) := by omega
    rw [impl_realPath_L0_eq, ek, gT (by omega), gT (by omega), gT (by rw [mkR_length]; omega)]
    simp only [Int.toNat_natCast, hat3, e5, some_bind]
    rw [gT (by omega), gT (by rw [mkR_length]; omega), bT (by simp)]
    have e6 : (mkR (fun _ => false) (A.take (n + 1) ++ canL p (A.drop (n + 1)))).set n (false, A[n].filter (stepIn p c)) = mkR (fun _ => false) (A.take n ++ canL p (A.drop n)) := by
      rw [← e4]
      exact mkR_set (fun _ => false) _ n _
    rw [e6, wr (by omega), bind_id, ih (by omega)]
theorem realP_2 {p : DProgram} (hok : Ok p) (gb b : Bool) (o : List Int) (s : Int) (hs : 0 ≤ s ∧ s < (manyS p : Int)) (k : Nat) (hk : o.length + 1 = k) (hk2 : k ≤ 1000000) (to : Int) : impl_realPath_2 to (gb, graphP p) (b, o ++ [s]) (k : Int) = some ((nextL p s).any fun y => to == y) := by
  have hg := graphP_length p
  have hms := manyS_in hok.sml
  have hnl := nextL_length hok hs
  have hget : (o ++ [s]).getD (k - 1) 0 = s := by
    rw [List.getD_eq_getElem?_getD, List.getElem?_append_right (by omega), show k - 1 - o.length = 0 by omega]
    rfl
  rw [impl_realPath_2_eq, dn1 k (by omega) (by omega), gT (by omega), gT (by simp; omega), Int.toNat_natCast]
  simp only [hget]
  rw [gT hs.1, gT (by first | omega | (simp only; omega)), graphP_at hs, containsInt _ _ (by simp only; omega), some_bind]
theorem index_real {p : DProgram} (hok : Ok p) (gb b : Bool) (o : List Int) (s : Int) (hs : 0 ≤ s ∧ s < (manyS p : Int)) (k : Nat) (hk : o.length + 1 = k) (hk2 : k ≤ 1000000) (l : Bool × List Int) (hl : l.2.length ≤ 1048576) (t : Int) (ht : (l.2.find? fun x => (nextL p s).any fun y => x == y) = some t) :
    ∃ i : Nat, i < l.2.length ∧ slices_IndexFunc_int_by_realPath_2 l ((gb, graphP p), ((b, o ++ [s]), ((k : Int), ()))) = some (i : Int) ∧ l.2.getD i 0 = t := by
  have h := loop_find l.2 (fun x => (nextL p s).any fun y => x == y) (fun i => slices_IndexFunc_int_by_realPath_2_L0 l ((gb, graphP p), ((b, o ++ [s]), ((k : Int), ()))) (l.2.length : Int) i) (fun i hi => by
    rw [slices_IndexFunc_int_by_realPath_2_L0_eq, gT (by omega), gT (by omega), gT (by omega), getD_at l.2 _ i hi, realP_2 hok gb b o s hs k hk hk2, some_bind, up1 i (by omega), bind_id]) (by rw [slices_IndexFunc_int_by_realPath_2_L0_eq, gF (by omega)])
  have hany : (l.2.any fun x => (nextL p s).any fun y => x == y) = true := List.any_eq_true.2 ⟨t, List.mem_of_find?_eq_some ht, by have := List.find?_some ht; exact this⟩
  have hlt : l.2.findIdx (fun x => (nextL p s).any fun y => x == y) < l.2.length := List.findIdx_lt_length.2 (List.any_eq_true.1 hany)
  refine ⟨_, hlt, ?_, ?_⟩
  · rw [slices_IndexFunc_int_by_realPath_2_eq]
    simp only [h, some_bind, hany, cond_true]
  · have := find_idx _ l.2 hlt
    rw [this] at ht
    have e : l.2.getD (l.2.findIdx fun x => (nextL p s).any fun y => x == y) 0 = l.2[l.2.findIdx fun x => (nextL p s).any fun y => x == y] := by simp [List.getD_eq_getElem?_getD, hlt]
    rw [e]
    exact Option.some.inj ht
theorem realP_L2 {p : DProgram} (hok : Ok p) (gb b : Bool) (D : List (List Int)) (hD : ∀ l ∈ D, InS p l) (hR : ∀ l ∈ D, Rising l) (hl : D.length ≤ 1000000) (d : Nat) : ∀ (k : Nat) (o : List Int) (s : Int), k + d = D.length → o.length + 1 = k → (0 ≤ s ∧ s < (manyS p : Int)) → Goes p s (D.drop k) →
    impl_realPath_L2 (b, mkR (fun _ => false) D) (gb, graphP p) ((D.length : Int) - 1) (false, o ++ [s]) (k : Int) = some (false, o ++ s :: walkL p s (D.drop k)) := by
  have hm := manyS_in hok.sml
  have hlim := lim_eq
  induction d with
  | zero =>
    intro k o s hk ho hs hg
    rw [impl_realPath_L2_eq, gF (by omega), List.drop_of_length_le (by omega)]
    rfl
  | succ d ih =>
    intro k o s hk ho hs hg
    have hlt : k < D.length := by omega
    have e0 : D.drop k = D[k] :: D.drop (k + 1) := List.drop_eq_getElem_cons hlt
    rw [e0] at hg
    obtain ⟨g1, g2⟩ := hg
    obtain ⟨t, t1, t2, t3⟩ := stepIn_find g1
    have hrow := hD _ (List.getElem_mem hlt)
    have hri := hR _ (List.getElem_mem hlt)
    have ht : (D[k].find? fun x => (nextL p s).any fun y => x == y) = some t := by rw [find_both (nextL_rising p s) hri]; exact t1
    obtain ⟨i, i1, i2, i3⟩ := index_real hok gb false o s hs k ho (by omega) (false, D[k]) (by have := hrow.1; simp only; omega) t ht
    have i1' : i < D[k].length := i1
    have i3' : D[k].getD i 0 = t := i3
    rw [impl_realPath_L2_eq, gT (by omega), gT (by omega), gT (by rw [mkR_length]; omega)]
    simp only [Int.toNat_natCast, mkR_at (fun _ => false) D hlt, i2, some_bind, i3']
    rw [gT (by omega), gT (by rw [mkR_length]; omega), gT (by omega), gT (by omega), gT (by simp; omega), up1 k (by omega), bind_id, Bool.and_false, ih (k + 1) (o ++ [s]) t (by omega) (by simp; omega) (hrow.2 t t3) (g2 t t3), e0, walkL, t1]
    simp
/-- what is known of a way that does not fail -/
theorem along_whole {p : DProgram} {v : List Int} (h : Sees p v) (path : List Int) (h1 : 1 ≤ path.length) (hf : ¬ failI (alongL p v (thoseL p p.2.2.1.2 0 (manyS p)) path) ≥ 0) :
    let A := alongL p v (thoseL p p.2.2.1.2 0 (manyS p)) path
    1 ≤ A.length ∧ (∀ l ∈ A, InS p l) ∧ (∀ l ∈ A, l ≠ []) ∧ Linked p A ∧ ∀ l ∈ A, Rising l := by
  intro A
  refine ⟨by rw [alongL_length]; exact h1, alongL_in h.ok v path _ (InS_those p.2.2.1.2), fun l hl hn => ?_, alongL_linked v path _, alongL_rising p v path _ (thoseL_rising _ _ _)⟩
  apply hf
  unfold failI
  have : (A.any fun l => (l.length : Int) == 0) = true := List.any_eq_true.2 ⟨l, hl, by rw [hn]; rfl⟩
  rw [this, cond_true]
  omega
theorem realPath {p : DProgram} {v : List Int} (h : Sees p v) (f : Bool) (path : Bool × List Int) (h1 : 1 ≤ path.2.length) (hp : path.2.length ≤ 1000000) :
    impl_realPath p (f, v) path = some (if failI (alongL p v (thoseL p p.2.2.1.2 0 (manyS p)) path.2) ≥ 0 then (true, []) else (false, realL p (alongL p v (thoseL p p.2.2.1.2 0 (manyS p)) path.2))) := by
  have hlen := alongL_length p v path.2 (thoseL p p.2.2.1.2 0 (manyS p))
  have e1 := statesAlong h f path (by omega)
  have e2 := (failsAt (alongL p v (thoseL p p.2.2.1.2 0 (manyS p)) path.2) (fun _ => false) false (by rw [hlen]; omega)).1
  rw [impl_realPath_eq, e1, some_bind, graphOf h.ok, some_bind]
  simp only [e2, some_bind]
  by_cases c : failI (alongL p v (thoseL p p.2.2.1.2 0 (manyS p)) path.2) ≥ 0
  · rw [gT c, if_pos c]
  · rw [gF c, if_neg c]
    obtain ⟨a1, a2, a3, a4, a5⟩ := along_whole h path.2 h1 c
    generalize alongL p v (thoseL p p.2.2.1.2 0 (manyS p)) path.2 = A at *
    obtain ⟨l, A2, rfl⟩ : ∃ l A2, A = l :: A2 := by
      cases A with
      | nil => simp at a1
      | cons l A2 => exact ⟨l, A2, rfl⟩
    obtain ⟨c, C, e, c1, _⟩ := canL_some A2 l a3 a4
    have hcan : ∀ m ∈ canL p (l :: A2), InS p m := canL_row (Q := InS p) (fun l q h => h.filter q) _ a2
    have hri : ∀ m ∈ canL p (l :: A2), Rising m := canL_row (Q := Rising) (fun l q h => List.Pairwise.filter _ h) _ a5
    have hlast : ∀ (B : List (List Int)) (h : 1 ≤ B.length), B.take (B.length - 1) ++ canL p (B.drop (B.length - 1)) = B := by
      intro B h
      have e : B.drop (B.length - 1) = [B[B.length - 1]] := by
        rw [List.drop_eq_getElem_cons (by omega), List.drop_of_length_le (by omega)]
      have e2 : canL p (B.drop (B.length - 1)) = B.drop (B.length - 1) := by rw [e]; rfl
      rw [e2, List.take_append_drop]
    have hcl := canL_length p (l :: A2)
    have e3 := realP_L0 h.ok false false (((l :: A2).length : Int) - 1) (l :: A2) a2 (by omega) ((l :: A2).length - 1) (by omega)
    rw [hlast _ a1] at e3
    obtain ⟨s, c', rfl⟩ : ∃ s c', c = s :: c' := by
      cases c with
      | nil => exact absurd rfl c1
      | cons s c' => exact ⟨s, c', rfl⟩
    have hs : 0 ≤ s ∧ s < (manyS p : Int) := (hcan (s :: c') (by rw [e]; simp)).2 s (by simp)
    have hgo := canL_goes p _ _ _ e s (by simp)
    have e4 := realP_L2 h.ok false false (canL p (l :: A2)) hcan hri (by rw [hcl]; omega) ((l :: A2).length - 1) 1 [] s (by rw [hcl]; omega) rfl hs (by rw [e]; exact hgo)
    rw [hcl] at e4
    have e4' : impl_realPath_L2 (false, mkR (fun _ => false) (canL p (l :: A2))) (false, graphP p) (((l :: A2).length : Int) - 1) (false, [s]) 1 = _ := e4
    have ew : IntKind.i64.wrap ((((l :: A2).map fun l => (false, l)).length : Int) - 1) = ((l :: A2).length : Int) - 1 := by
      rw [List.length_map, wr (by omega)]
    have ew2 : IntKind.i64.wrap ((((l :: A2).length : Int) - 1) - 1) = (((l :: A2).length - 1 : Nat) : Int) - 1 := by
      rw [wr (by omega)]
      omega
    simp only [ew, ew2]
    have e3' : impl_realPath_L0 (false, (l :: A2).map fun l => (false, l)) (false, (List.range (manyS p)).map fun s : Nat => (false, nextL p (s : Int))) (((l :: A2).length : Int) - 1) ((((l :: A2).length - 1 : Nat) : Int) - 1) = _ := e3
    have h0 : (mkR (fun _ => false) (canL p (l :: A2))).getD 0 (true, []) = (false, s :: c') := by rw [e]; rfl
    have hset : (mkR (fun _ => false) (canL p (l :: A2))).set 0 (false, s :: c') = mkR (fun _ => false) (canL p (l :: A2)) := by rw [e]; rfl
    rw [e3', some_bind, gT (by rw [mkR_length, hcl]; omega)]
    simp only [h0, hset, List.getD_cons_zero]
    rw [gT (by simp only [List.length_cons]; omega)]
    show ((impl_realPath_L2 (false, mkR (fun _ => false) (canL p (l :: A2))) (false, graphP p) (((l :: A2).length : Int) - 1) (false, [s]) 1).bind fun r4 => some (r4.1, r4.2)) = _
    rw [e4', some_bind, realL, e]
    rfl
/-- what can be reached along arrows -/
inductive Way (g : Int → List Int) : Int → Int → Prop
  | here (a : Int) : Way g a a
  | step {a b c : Int} : b ∈ g a → Way g b c → Way g a c
theorem Way.trans {g : Int → List Int} {a b c : Int} (h : Way g a b) (h2 : Way g b c) : Way g a c := by
  induction h with
  | here a => exact h2
  | step e _ ih => exact Way.step e (ih h2)
theorem Way.arc {g : Int → List Int} {a b : Int} (h : b ∈ g a) : Way g a b := Way.step h (Way.here b)
theorem Way.snoc {g : Int → List Int} {a b c : Int} (h : Way g a b) (h2 : c ∈ g b) : Way g a c := h.trans (Way.arc h2)
/-- what is closed along arrows keeps its ways in -/
theorem Way.closed {g : Int → List Int} {P : Int → Prop} (hc : ∀ x, P x → ∀ y ∈ g x, P y) {a b : Int} (h : Way g a b) : P a → P b := by
  induction h with
  | here a => exact id
  | step e _ ih => exact fun h => ih (hc _ h _ e)
theorem Way.turn {g r : Int → List Int} (hr : ∀ x y, y ∈ r x → x ∈ g y) {a b : Int} (h : Way r a b) : Way g b a := by
  induction h with
  | here a => exact Way.here a
  | step e _ ih => exact ih.trans (Way.arc (hr _ _ e))
/-- each leads to the other -/
def Scc (g : Int → List Int) (a b : Int) : Prop := Way g a b ∧ Way g b a
theorem Scc.refl (g : Int → List Int) (a : Int) : Scc g a a := ⟨Way.here a, Way.here a⟩
theorem Scc.symm {g : Int → List Int} {a b : Int} (h : Scc g a b) : Scc g b a := ⟨h.2, h.1⟩
theorem Scc.trans {g : Int → List Int} {a b c : Int} (h : Scc g a b) (h2 : Scc g b c) : Scc g a c := ⟨h.1.trans h2.1, h2.2.trans h.2⟩
/-- the least of a part -/
def IsL (g : Int → List Int) (x m : Int) : Prop := Scc g x m ∧ ∀ y, Scc g x y → m ≤ y
theorem IsL.one {g : Int → List Int} {x m k : Int} (h : IsL g x m) (h2 : IsL g x k) : m = k := Int.le_antisymm (h.2 k h2.1) (h2.2 m h.1)
theorem IsL.of {g : Int → List Int} {x y m : Int} (h : IsL g x m) (e : Scc g x y) : IsL g y m := ⟨e.symm.trans h.1, fun z hz => h.2 z (e.trans hz)⟩
structure FinI (g : Int → List Int) (G S : Int → Prop) (o : List Int) : Prop where
  see : ∀ x, S x ↔ (x ∈ o ∨ G x)
  dis : ∀ x ∈ o, ¬ G x
  suc : ∀ x ∈ o, ∀ y ∈ g x, S y
  star : ∀ A z B, o = A ++ z :: B → (∀ w, Way g z w → w ∈ A ∨ w = z) ∨ ∃ y, Scc g z y ∧ y ∉ A ∧ y ≠ z
  nod : o.Nodup
theorem FinI.enter {g : Int → List Int} {G S : Int → Prop} {o : List Int} (h : FinI g G S o) {k : Int} (hk : ¬ S k) : FinI g (fun x => G x ∨ x = k) (fun x => S x ∨ x = k) o := by
  refine ⟨fun x => ?_, fun x hx hc => ?_, fun x hx y hy => Or.inl (h.suc x hx y hy), h.star, h.nod⟩
  · rw [h.see]
    constructor
    · rintro ((a | a) | a)
      · exact Or.inl a
      · exact Or.inr (Or.inl a)
      · exact Or.inr (Or.inr a)
    · rintro (a | a | a)
      · exact Or.inl (Or.inl a)
      · exact Or.inl (Or.inr a)
      · exact Or.inr a
  · rcases hc with hc | hc
    · exact h.dis x hx hc
    · subst hc
      exact hk ((h.see x).2 (Or.inl hx))
theorem FinI.leave {g : Int → List Int} {G S : Int → Prop} {o : List Int} {k : Int} (h : FinI g (fun x => G x ∨ x = k) S o) (hg : ¬ G k) (hs : ∀ y ∈ g k, S y) (hw : ∀ x, G x → Way g x k) : FinI g G S (o ++ [k]) := by
  have hko : k ∉ o := fun c => h.dis k c (Or.inr rfl)
  refine ⟨fun x => ?_, fun x hx hc => ?_, fun x hx y hy => ?_, fun A z B e => ?_, ?_⟩
  · rw [h.see, List.mem_append, List.mem_singleton]
    constructor
    · rintro (a | a | a)
      · exact Or.inl (Or.inl a)
      · exact Or.inr a
      · exact Or.inl (Or.inr a)
    · rintro ((a | a) | a)
      · exact Or.inl a
      · exact Or.inr (Or.inr a)
      · exact Or.inr (Or.inl a)
  · rw [List.mem_append, List.mem_singleton] at hx
    rcases hx with hx | hx
    · exact h.dis x hx (Or.inl hc)
    · subst hx
      exact hg hc
  · rw [List.mem_append, List.mem_singleton] at hx
    rcases hx with hx | hx
    · exact h.suc x hx y hy
    · subst hx
      exact hs y hy
  · rcases List.eq_nil_or_concat B with hB | ⟨B2, b, hB⟩
    · subst hB
      obtain ⟨e1, e2⟩ := List.append_inj' e rfl
      simp only [List.cons.injEq, and_true] at e2
      subst e1 e2
      by_cases c : ∃ y, G y ∧ Way g k y
      · obtain ⟨y, hy, hy2⟩ := c
        refine Or.inr ⟨y, ⟨hy2, hw y hy⟩, fun q => h.dis y q (Or.inl hy), fun q => ?_⟩
        subst q
        exact hg hy
      · refine Or.inl fun w hkw => ?_
        have key : Way g k w ∧ (w ∈ o ∨ w = k) := Way.closed (P := fun x => Way g k x ∧ (x ∈ o ∨ x = k)) (fun x hx y hy => by
          have hky := hx.1.snoc hy
          have hsy : S y := by
            rcases hx.2 with q | q
            · exact h.suc x q y hy
            · subst q
              exact hs y hy
          refine ⟨hky, ?_⟩
          rcases (h.see y).1 hsy with q | q | q
          · exact Or.inl q
          · exact absurd ⟨y, q, hky⟩ c
          · exact Or.inr q) hkw ⟨Way.here k, Or.inr rfl⟩
        exact key.2
    · subst hB
      rw [List.concat_eq_append] at e
      have e' : o ++ [k] = (A ++ z :: B2) ++ [b] := by rw [e]; simp
      obtain ⟨e1, _⟩ := List.append_inj' e' rfl
      exact h.star A z B2 e1
  · rw [List.nodup_append]
    refine ⟨h.nod, List.pairwise_singleton _ _, fun a ha b hb => ?_⟩
    rw [List.mem_singleton] at hb
    rintro rfl
    subst hb
    exact hko ha
structure ColI (g : Int → List Int) (r : Int) (Base G S : Int → Prop) (o : List Int) : Prop where
  see : ∀ x, S x ↔ (Base x ∨ x ∈ o ∨ G x)
  new : ∀ x, x ∈ o ∨ G x → ¬ Base x ∧ Way g r x
  suc : ∀ x ∈ o, ∀ y ∈ g x, S y
theorem ColI.enter {g : Int → List Int} {r : Int} {Base G S : Int → Prop} {o : List Int} (h : ColI g r Base G S o) {k : Int} (hk : ¬ S k) (hr : Way g r k) : ColI g r Base (fun x => G x ∨ x = k) (fun x => S x ∨ x = k) o := by
  refine ⟨fun x => ?_, fun x hx => ?_, fun x hx y hy => Or.inl (h.suc x hx y hy)⟩
  · rw [h.see]
    constructor
    · rintro ((a | a | a) | a)
      · exact Or.inl a
      · exact Or.inr (Or.inl a)
      · exact Or.inr (Or.inr (Or.inl a))
      · exact Or.inr (Or.inr (Or.inr a))
    · rintro (a | a | a | a)
      · exact Or.inl (Or.inl a)
      · exact Or.inl (Or.inr (Or.inl a))
      · exact Or.inl (Or.inr (Or.inr a))
      · exact Or.inr a
  · rcases hx with a | a | a
    · exact h.new x (Or.inl a)
    · exact h.new x (Or.inr a)
    · subst a
      exact ⟨fun c => hk ((h.see x).2 (Or.inl c)), hr⟩
theorem ColI.leave {g : Int → List Int} {r : Int} {Base G S : Int → Prop} {o : List Int} {k : Int} (h : ColI g r Base (fun x => G x ∨ x = k) S o) (hs : ∀ y ∈ g k, S y) : ColI g r Base G S (o ++ [k]) := by
  refine ⟨fun x => ?_, fun x hx => ?_, fun x hx y hy => ?_⟩
  · rw [h.see, List.mem_append, List.mem_singleton]
    constructor
    · rintro (a | a | a | a)
      · exact Or.inl a
      · exact Or.inr (Or.inl (Or.inl a))
      · exact Or.inr (Or.inr a)
      · exact Or.inr (Or.inl (Or.inr a))
    · rintro (a | (a | a) | a)
      · exact Or.inl a
      · exact Or.inr (Or.inl a)
      · exact Or.inr (Or.inr (Or.inr a))
      · exact Or.inr (Or.inr (Or.inl a))
  · rw [List.mem_append, List.mem_singleton] at hx
    rcases hx with (a | a) | a
    · exact h.new x (Or.inl a)
    · exact h.new x (Or.inr (Or.inr a))
    · exact h.new x (Or.inr (Or.inl a))
  · rw [List.mem_append, List.mem_singleton] at hx
    rcases hx with a | a
    · exact h.suc x a y hy
    · subst a
      exact hs y hy
/-- a function with another value at one place -/
def updI (f : Int → Int) (k v : Int) : Int → Int := fun x => if x = k then v else f x
theorem updI_same (f : Int → Int) (k v : Int) : updI f k v k = v := if_pos rfl
theorem updI_other (f : Int → Int) {k x : Int} (v : Int) (h : ¬ x = k) : updI f k v x = f x := if_neg h
/-- the walk with a stack: what holds between calls (G: the points that are being visited) -/
structure TarI (g : Int → List Int) (G : Int → Prop) (fo pa : Int → Int) (st : List Int) (vis : Int) : Prop where
  fr : ∀ x, 0 ≤ fo x ∧ fo x ≤ vis
  see : ∀ x, fo x ≠ 0 ↔ (0 ≤ pa x ∨ x ∈ st)
  dis : ∀ x ∈ st, pa x < 0
  nn : ∀ x ∈ st, 0 ≤ x
  inc : st.Pairwise fun a b => fo a < fo b
  gs : ∀ x, G x → x ∈ st
  cl : ∀ x, 0 ≤ pa x → ∀ y ∈ g x, 0 ≤ pa y
  val : ∀ x, 0 ≤ pa x → IsL g x (pa x)
  blk : ∀ x ∈ st, ¬ G x → (∀ y ∈ g x, fo y ≠ 0) ∧ ∃ y ∈ st, fo y < fo x ∧ Way g x y
theorem TarI.enter {g : Int → List Int} {G : Int → Prop} {fo pa : Int → Int} {st : List Int} {vis v : Int} (h : TarI g G fo pa st vis) (hv : fo v = 0) (hv0 : 0 ≤ v) : TarI g (fun x => G x ∨ x = v) (updI fo v (vis + 1)) pa (st ++ [v]) (vis + 1) := by
  have hvis := h.fr v
  have hns : v ∉ st := fun c => (h.see v).2 (Or.inr c) hv
  have hne : ∀ x ∈ st, ¬ x = v := fun x hx e => by
    subst e
    exact hns hx
  have hup : ∀ y, fo y ≠ 0 → updI fo v (vis + 1) y ≠ 0 := fun y hy => by
    by_cases c : y = v
    · subst c
      exact absurd hv hy
    · rwa [updI_other _ _ c]
  refine ⟨fun x => ?_, fun x => ?_, fun x hx => ?_, fun x hx => ?_, ?_, fun x hx => ?_, h.cl, h.val, fun x hx hg => ?_⟩
  · by_cases c : x = v
    · subst c
      rw [updI_same]
      omega
    · rw [updI_other _ _ c]
      have := h.fr x
      omega
  · by_cases c : x = v
    · subst c
      rw [updI_same]
      exact ⟨fun _ => Or.inr (by simp), fun _ => by omega⟩
    · rw [updI_other _ _ c, h.see, List.mem_append, List.mem_singleton]
      constructor
      · rintro (a | a)
        · exact Or.inl a
        · exact Or.inr (Or.inl a)
      · rintro (a | a | a)
        · exact Or.inl a
        · exact Or.inr a
        · exact absurd a c
  · rw [List.mem_append, List.mem_singleton] at hx
    rcases hx with hx | hx
    · exact h.dis x hx
    · subst hx
      rcases Int.lt_or_le (pa x) 0 with c | c
      · exact c
      · exact absurd hv ((h.see x).2 (Or.inl c))
  · rw [List.mem_append, List.mem_singleton] at hx
    rcases hx with hx | hx
    · exact h.nn x hx
    · omega
  · rw [List.pairwise_append]
    refine ⟨h.inc.imp_of_mem fun {a b} ha hb hab => ?_, List.pairwise_singleton _ _, fun a ha b hb => ?_⟩
    · rw [updI_other _ _ (hne a ha), updI_other _ _ (hne b hb)]
      exact hab
    · rw [List.mem_singleton] at hb
      subst hb
      rw [updI_other _ _ (hne a ha), updI_same]
      have := h.fr a
      omega
  · rw [List.mem_append, List.mem_singleton]
    rcases hx with hx | hx
    · exact Or.inl (h.gs x hx)
    · exact Or.inr hx
  · rw [List.mem_append, List.mem_singleton] at hx
    rcases hx with hx | hx
    · obtain ⟨h1, y, h2, h3, h4⟩ := h.blk x hx (fun c => hg (Or.inl c))
      refine ⟨fun z hz => hup z (h1 z hz), y, List.mem_append_left _ h2, ?_, h4⟩
      rw [updI_other _ _ (hne y h2), updI_other _ _ (hne x hx)]
      exact h3
    · exact absurd (Or.inr hx) hg
/-- within a visit: some arrows are done -/
structure TarL (g : Int → List Int) (G : Int → Prop) (v : Int) (S0 : List Int) (fo0 lo0 : Int → Int) (vis0 : Int) (fo lo pa : Int → Int) (st : List Int) (vis : Int) (done : List Int) : Prop where
  inv : TarI g (fun x => G x ∨ x = v) fo pa st vis
  gs0 : ∀ x, G x → x ∈ S0
  stk : ∃ M, st = S0 ++ v :: M ∧ ∀ x ∈ M, Way g v x ∧ ∀ y ∈ g x, y ∈ S0 → lo v ≤ fo y
  keep : ∀ x, fo0 x ≠ 0 → fo x = fo0 x ∧ lo x = lo0 x
  fv : vis0 < fo v
  vs : vis0 ≤ vis
  lv : lo v ≤ fo v
  low : ∃ u ∈ st, fo u = lo v ∧ Way g v u
  dn : ∀ w ∈ done, fo w ≠ 0 ∧ (w ∈ S0 → lo v ≤ fo w)
/-- behind a visit -/
structure TarP (g : Int → List Int) (G : Int → Prop) (v : Int) (S0 : List Int) (fo0 lo0 : Int → Int) (vis0 : Int) (fo lo pa : Int → Int) (st : List Int) (vis : Int) : Prop where
  inv : TarI g G fo pa st vis
  keep : ∀ x, fo0 x ≠ 0 → fo x = fo0 x ∧ lo x = lo0 x
  fv : vis0 < fo v
  vs : vis0 ≤ vis
  out : ∃ N, st = S0 ++ N ∧ (∀ x ∈ N, Way g v x ∧ ∀ y ∈ g x, y ∈ S0 → lo v ≤ fo y) ∧ ((N = [] ∧ fo v ≤ lo v) ∨ ∃ u ∈ st, fo u = lo v ∧ Way g v u)
theorem TarL.start {g : Int → List Int} {G : Int → Prop} {fo lo pa : Int → Int} {st : List Int} {vis v : Int} (h : TarI g G fo pa st vis) (hv : fo v = 0) (hv0 : 0 ≤ v) : TarL g G v st fo lo vis (updI fo v (vis + 1)) (updI lo v (vis + 1)) pa (st ++ [v]) (vis + 1) [] := by
  refine ⟨h.enter hv hv0, h.gs, ⟨[], rfl, fun x hx => by cases hx⟩, fun x hx => ?_, ?_, by omega, ?_, ⟨v, by simp, ?_, Way.here v⟩, fun w hw => by cases hw⟩
  · have : ¬ x = v := fun e => hx (by rw [e]; exact hv)
    exact ⟨updI_other _ _ this, updI_other _ _ this⟩
  · rw [updI_same]; omega
  · rw [updI_same, updI_same]; omega
  · rw [updI_same, updI_same]
theorem TarL.skip {g : Int → List Int} {G : Int → Prop} {fo0 lo0 fo lo pa : Int → Int} {S0 st done : List Int} {vis0 vis v w : Int} (h : TarL g G v S0 fo0 lo0 vis0 fo lo pa st vis done) (hp : 0 ≤ pa w) : TarL g G v S0 fo0 lo0 vis0 fo lo pa st vis (w :: done) := by
  refine { h with dn := fun x hx => ?_ }
  rcases List.mem_cons.1 hx with rfl | hx
  · refine ⟨(h.inv.see x).2 (Or.inl hp), fun hs => ?_⟩
    obtain ⟨M, e, _⟩ := h.stk
    have := h.inv.dis x (by rw [e]; exact List.mem_append_left _ hs)
    omega
  · exact h.dn x hx
theorem TarL.seen {g : Int → List Int} {G : Int → Prop} {fo0 lo0 fo lo pa : Int → Int} {S0 st done : List Int} {vis0 vis v w : Int} (h : TarL g G v S0 fo0 lo0 vis0 fo lo pa st vis done) (hw : w ∈ g v) (h1 : fo w ≠ 0) (hp : pa w < 0) (hv0 : fo0 v = 0) :
    TarL g G v S0 fo0 lo0 vis0 fo (updI lo v (min (lo v) (fo w))) pa st vis (w :: done) := by
  obtain ⟨M, e, hM⟩ := h.stk
  have hlv := h.lv
  refine ⟨h.inv, h.gs0, ⟨M, e, fun x hx => ⟨(hM x hx).1, fun y hy hs => ?_⟩⟩, fun x hx => ?_, h.fv, h.vs, ?_, ?_, fun x hx => ?_⟩
  · rw [updI_same]
    have := (hM x hx).2 y hy hs
    omega
  · have : ¬ x = v := fun e => hx (by rw [e]; exact hv0)
    rw [updI_other _ _ this]
    exact h.keep x hx
  · rw [updI_same]
    omega
  · rw [updI_same]
    rcases Int.le_total (lo v) (fo w) with c | c
    · obtain ⟨u, h2, h3, h4⟩ := h.low
      exact ⟨u, h2, by omega, h4⟩
    · refine ⟨w, ?_, by omega, Way.arc hw⟩
      rcases (h.inv.see w).1 h1 with q | q
      · omega
      · exact q
  · rw [updI_same]
    rcases List.mem_cons.1 hx with rfl | hx
    · exact ⟨h1, fun _ => by omega⟩
    · have := h.dn x hx
      exact ⟨this.1, fun q => by have := this.2 q; omega⟩
theorem TarL.call {g : Int → List Int} {G : Int → Prop} {fo0 lo0 fo lo pa fo2 lo2 pa2 : Int → Int} {S0 st done st2 : List Int} {vis0 vis vis2 v w : Int} (h : TarL g G v S0 fo0 lo0 vis0 fo lo pa st vis done) (hw : w ∈ g v) (h1 : fo w = 0) (hv0 : fo0 v = 0)
    (p : TarP g (fun x => G x ∨ x = v) w st fo lo vis fo2 lo2 pa2 st2 vis2) : TarL g G v S0 fo0 lo0 vis0 fo2 (updI lo2 v (min (lo2 v) (lo2 w))) pa2 st2 vis2 (w :: done) := by
  obtain ⟨M, e, hM⟩ := h.stk
  obtain ⟨N, e2, hN, hout⟩ := p.out
  have hlv := h.lv
  have hfv := h.fv
  have hvs := h.vs
  have hvs2 := p.vs
  have hpfv := p.fv
  have hvr := h.inv.fr v
  have hvv : v ∈ st := by rw [e]; simp
  have hfv0 : fo v ≠ 0 := (h.inv.see v).2 (Or.inr hvv)
  obtain ⟨k1, k2⟩ := p.keep v hfv0
  have kst : ∀ x ∈ st, fo2 x = fo x ∧ lo2 x = lo x := fun x hx => p.keep x ((h.inv.see x).2 (Or.inr hx))
  have hS : ∀ y, y ∈ S0 → y ∈ st := fun y hy => by rw [e]; exact List.mem_append_left _ hy
  refine ⟨p.inv, h.gs0, ⟨M ++ N, by rw [e2, e]; simp, fun x hx => ?_⟩, fun x hx => ?_, by omega, by omega, ?_, ?_, fun x hx => ?_⟩
  · rw [updI_same, k2]
    rcases List.mem_append.1 hx with hx | hx
    · refine ⟨(hM x hx).1, fun y hy hs => ?_⟩
      have a := (hM x hx).2 y hy hs
      have b := (kst y (hS y hs)).1
      omega
    · refine ⟨Way.step hw (hN x hx).1, fun y hy hs => ?_⟩
      have a := (hN x hx).2 y hy (hS y hs)
      omega
  · have hne : ¬ x = v := fun e => hx (by rw [e]; exact hv0)
    obtain ⟨a1, a2⟩ := h.keep x hx
    obtain ⟨b1, b2⟩ := p.keep x (by rw [a1]; exact hx)
    rw [updI_other _ _ hne, b1, b2, a1, a2]
    exact ⟨rfl, rfl⟩
  · rw [updI_same, k2, k1]
    omega
  · rw [updI_same, k2]
    have old : ∃ u ∈ st2, fo2 u = lo v ∧ Way g v u := by
      obtain ⟨u, h2, h3, h4⟩ := h.low
      exact ⟨u, by rw [e2]; exact List.mem_append_left _ h2, by rw [(kst u h2).1]; exact h3, h4⟩
    rcases Int.le_total (lo v) (lo2 w) with c | c
    · rw [Int.min_eq_left c]
      exact old
    · rw [Int.min_eq_right c]
      rcases hout with ⟨_, q⟩ | ⟨u, q1, q2, q3⟩
      · have : lo2 w = lo v := by omega
        rw [this]
        exact old
      · exact ⟨u, q1, q2, Way.step hw q3⟩
  · rw [updI_same, k2]
    rcases List.mem_cons.1 hx with rfl | hx
    · refine ⟨by omega, fun hs => ?_⟩
      exact absurd h1 ((h.inv.see x).2 (Or.inr (hS x hs)))
    · obtain ⟨a1, a2⟩ := h.dn x hx
      obtain ⟨b1, b2⟩ := p.keep x a1
      rw [b1]
      exact ⟨a1, fun q => by have := a2 q; omega⟩
/-- a visit ends, and its point stays on the stack -/
theorem TarL.stay {g : Int → List Int} {G : Int → Prop} {fo0 lo0 fo lo pa : Int → Int} {S0 st done : List Int} {vis0 vis v : Int} (h : TarL g G v S0 fo0 lo0 vis0 fo lo pa st vis done) (hd : ∀ y ∈ g v, y ∈ done) (hl : lo v < fo v) : TarP g G v S0 fo0 lo0 vis0 fo lo pa st vis := by
  obtain ⟨M, e, hM⟩ := h.stk
  refine ⟨{ h.inv with gs := fun x hx => h.inv.gs x (Or.inl hx), blk := fun x hx hg => ?_ }, h.keep, h.fv, h.vs, ⟨v :: M, e, fun x hx => ?_, Or.inr h.low⟩⟩
  · by_cases c : x = v
    · subst c
      obtain ⟨u, h2, h3, h4⟩ := h.low
      exact ⟨fun y hy => (h.dn y (hd y hy)).1, u, h2, by omega, h4⟩
    · exact h.inv.blk x hx (fun q => q.elim hg c)
  · rcases List.mem_cons.1 hx with rfl | hx
    · exact ⟨Way.here x, fun y hy hs => (h.dn y (hd y hy)).2 hs⟩
    · exact hM x hx

end Go.Proofs.YtkfnlnohgfpipaaGreat.R
