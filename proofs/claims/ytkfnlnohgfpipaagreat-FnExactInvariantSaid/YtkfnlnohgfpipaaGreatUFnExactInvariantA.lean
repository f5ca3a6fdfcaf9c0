/- The plain law of FnExactInvariant: what the two functions compute is the same. -/
import Derived.Test.YtkfnlnohgfpipaaGreatEFnExactInvariant
import Derived.Laws.MathBits
set_option linter.all false
namespace Go.Proofs.YtkfnlnohgfpipaaGreat.R
open Go.Rf
/-- The cut of the reference, bit by bit, is the remainder. -/
theorem Qd6 (n a : Nat) (hn : n ≤ 4611686018427387904) (ha : a < 2 ^ 64) (d : Nat) : ∀ i : Nat, i + d = n →
    F8x (n : Int) (a : Int) ((a % 2 ^ (min i 64) : Nat) : Int) (i : Int) = some ((a % 2 ^ (min n 64) : Nat) : Int) := by
  induction d with
  | zero =>
    intro i hi
    obtain rfl : i = n := by omega
    rw [F8xE, gF (by omega)]
  | succ d ih =>
    intro i hi
    have e1 : IntKind.u64.wrap (i : Int) = (i : Int) := wru (by omega)
    rw [F8xE, gT (by omega), e1, gF (by omega), up1 i (by omega), J1]
    by_cases h64 : i < 64
    · have hlt : a % 2 ^ i < 2 ^ 64 := Nat.lt_of_le_of_lt (Nat.mod_le _ _) ha
      have hp : (2 : Nat) ^ i < 2 ^ 64 := Nat.pow_lt_pow_right (by decide) h64
      rw [Jgj i h64, J8c a (2 ^ i) ha hp, show min i 64 = i by omega, J91 (a % 2 ^ i) (a &&& 2 ^ i) hlt (Nat.and_lt_two_pow _ hp), Jff]
      have := ih (i + 1) (by omega)
      rw [show min (i + 1) 64 = i + 1 by omega] at this
      exact this
    · have e3 : bShl .u64 1 (i : Int) = 0 := by
        unfold bShl
        rw [show min ((i : Int)).toNat (IntKind.u64.bits) = 64 by simp only [K7, IntKind.bits]; omega, J73]
        decide
      have hlt : a % 2 ^ (min i 64) < 2 ^ 64 := Nat.lt_of_le_of_lt (Nat.mod_le _ _) ha
      rw [e3, show (0 : Int) = ((0 : Nat) : Int) from rfl, J8c a 0 ha (by decide), J91 _ (a &&& 0) hlt (by simp)]
      rw [show a % 2 ^ (min i 64) ||| a &&& 0 = a % 2 ^ (min (i + 1) 64) by simp; rw [show min i 64 = min (i + 1) 64 by omega]]
      exact ih (i + 1) (by omega)
theorem Qbf (n a : Nat) (hn : n ≤ 4611686018427387904) (ha : a < 2 ^ 64) : Fv (n : Int) (a : Int) = some ((a % 2 ^ (min n 64) : Nat) : Int) := by
  have := Qd6 n a hn ha n 0 (by omega)
  rw [FvE, J1]
  simpa [Nat.mod_one] using this

/-- The greatest word of a width. -/
def top (wide : Int) : Int := 2 ^ wide.toNat - 1
theorem Q4d {wide : Int} (h : 1 ≤ wide ∧ wide ≤ 64) : 1 ≤ top wide ∧ top wide ≤ 18446744073709551615 := by
  obtain ⟨n, rfl⟩ := Kf (show 0 ≤ wide by omega)
  have h1 := J4e (n := n) (by omega)
  have h2 : (2 : Nat) ^ 1 ≤ 2 ^ n := Nat.pow_le_pow_right (by decide) (by omega)
  have e : ((2 : Int) ^ n) = ((2 ^ n : Nat) : Int) := by simp
  simp only [top, K7, e]
  omega
theorem Q2w (wide : Int) (hw : 1 ≤ wide ∧ wide ≤ 64) : F0 wide = some (top wide) := by
  obtain ⟨n, rfl⟩ := Kf (show 0 ≤ wide by omega)
  have hp : 0 < (2 : Nat) ^ n := Nat.two_pow_pos _
  have e : ((2 : Int) ^ n) = ((2 ^ n : Nat) : Int) := by simp
  rw [F0E, Jgf n (by omega) (by omega), wr (by omega), gF (by omega)]
  simp only [top, K7, e]
  congr 1
  omega
/-- Is a word of a width? -/
def Q2v (wide a : Int) : Bool := decide (1 ≤ wide) && decide (wide ≤ 64) && decide (a ≤ top wide)
theorem Q14 {wide a : Int} : Q2v wide a = true ↔ 1 ≤ wide ∧ wide ≤ 64 ∧ a ≤ top wide := by
  simp only [Q2v, K5, decide_eq_true_eq]
  omega
theorem Q4w (n : Int) : F4i n = some (decide (1 ≤ n ∧ n ≤ 64)) := by
  rw [F4iE]
  by_cases h : n ≥ 1
  · rw [gT h]; congr 1; apply decide_eq_decide.mpr; omega
  · rw [gF h]; congr 1; symm; apply decide_eq_false; omega
theorem Q2n (n lo hi : Int) : F3z n lo hi = some (decide (lo ≤ n ∧ n ≤ hi)) := by
  rw [F3zE]
  by_cases h : n ≥ lo
  · rw [gT h]; congr 1; apply decide_eq_decide.mpr; omega
  · rw [gF h]; congr 1; symm; apply decide_eq_false; omega
theorem Q7e (n : Int) : F4w n = some (decide (1 ≤ n ∧ n ≤ 64)) := by rw [F4wE, J1, Q2n]
theorem Q2e (wide a : Int) (h : U64 a) : F4e wide a = some (Q2v wide a) := by
  rw [F4eE, Q7e, J0]
  by_cases hw : 1 ≤ wide ∧ wide ≤ 64
  · rw [gT hw]
    obtain ⟨h0, h1⟩ := h
    obtain ⟨n, rfl⟩ := Kf (show 0 ≤ wide by omega)
    obtain ⟨m, rfl⟩ := Kf h0
    have hm : m < 2 ^ 64 := by simpa using (show m < 18446744073709551616 by omega)
    rw [Qbf n m (by omega) hm, J0, show min n 64 = n by omega]
    have e : ((2 : Int) ^ n) = ((2 ^ n : Nat) : Int) := by simp
    have hp : 0 < (2 : Nat) ^ n := Nat.two_pow_pos _
    congr 1
    rw [Bool.eq_iff_iff, beq_iff_eq, Q14]
    simp only [top, K7, e]
    constructor
    · intro h
      have h' : m % 2 ^ n = m := by exact_mod_cast h
      have := Nat.mod_lt m hp
      omega
    · intro h
      rw [K1w (by omega)]
  · rw [gF hw]
    congr 1
    symm
    rw [← Bool.not_eq_true, Q14]
    omega
theorem Q2a (wide a : Int) : F4h wide a = some (Q2v wide a) := by
  rw [F4hE, Q4w, J0]
  by_cases hw : 1 ≤ wide ∧ wide ≤ 64
  · rw [gT hw, Q2w wide hw, J0]
    congr 1
    rw [Bool.eq_iff_iff, Q14, decide_eq_true_eq]
    omega
  · rw [gF hw]
    congr 1
    symm
    rw [← Bool.not_eq_true, Q14]
    omega
theorem Q55 (a : Bool × List DNode) (left : Int) (h0 : 0 ≤ left ∧ left ≤ 1048576) (hl : a.2.length ≤ big) : Fp a left = some (if (a.2.length : Int) ≤ left then left - a.2.length else -1) := by
  rw [J5z] at hl
  rw [FpE, wr (by omega)]
  by_cases h : (a.2.length : Int) ≤ left
  · rw [gF (by omega), if_pos h]
  · rw [gT (by omega), if_neg h]
theorem Q56 (a : Bool × List DNode) (hl : a.2.length ≤ 1048576) : F6 a = some (false, a.2) := by
  have hlim : lim = 1099511627776 := rfl
  rw [F6E, gT (by omega), gT (by omega), gT (by omega), gT (by omega), J1]
  have := J2y a.2 (fun x => x) (fun o i => F81 a o i) false (fun i h x hx => by
    rw [F81E, gT (by omega), gT (by omega), gT (by omega), J2 a.2 _ i h, F3E, J0, gT (by omega), gT (by simp only; omega), up1 i (by omega), J1, K7]) (fun x hx => by
    rw [F81E, gF (by omega)]) (List.replicate (Int.toNat (a.2.length : Int)) (0, 0)) (by simp)
  rw [this]
  simp
theorem Q71 (a : Bool × List DNode) (hl : a.2.length ≤ 1048576) (b : Bool) : Fb a (b, a.2) = some true := by
  rw [FbE, bF (by simp)]
  have := J4c a.2 (fun _ => true) (.inr () : Bool ⊕ Unit) (.inl false) (fun i => F9h a (b, a.2) i) (fun i h => by
    rw [F9hE, gT (by omega), gT (by omega), gT (by omega), gT (by omega), gT (by simp only; omega), J2 a.2 _ i h, F7E, bF (by simp), bF (by simp), J0, bF (by simp), up1 i (by omega), J1, cond_true]) (by
    rw [F9hE, gF (by omega)])
  rw [this, show (a.2.all fun _ => true) = true by simp]
  rfl
theorem Q1h (f g : Bool) (l : List DNode) (hl : l.length ≤ 1048576) : Fb (f, l) (g, l) = some true := Q71 (f, l) hl g
def Q1p (c : DChange) : Prop := c.2.2.length ≤ 1048576
def Q1g (c : DCommand) : Prop := c.1.2.length ≤ 1048576 ∧ c.2.2.length ≤ 1048576 ∧ ∀ d ∈ c.2.2, Q1p d
def Qa (p : DProgram) : Prop := p.2.2.1.2.length ≤ 1048576 ∧ p.2.2.2.2.length ≤ 1048576 ∧ ∀ c ∈ p.2.2.2.2, Q1g c
theorem Qe5 (c : DChange) (left : Int) (h0 : 0 ≤ left ∧ left ≤ 1048576) (hl : c.2.2.length ≤ big) : ∃ r, F14 c left = some r ∧ (r < 0 ∨ (0 ≤ r ∧ r ≤ left ∧ Q1p c)) := by
  rw [F14E, Q55 c.2 left h0 hl, J0]
  by_cases h : (c.2.2.length : Int) ≤ left
  · rw [if_pos h, gF (by omega)]
    exact ⟨_, rfl, .inr ⟨by omega, by omega, by unfold Q1p; omega⟩⟩
  · rw [if_neg h, gT (by omega)]
    exact ⟨_, rfl, .inl (by omega)⟩
/-- a loop that counts down what may still come -/
theorem Q8x {α : Type} (l : List α) (Q : α → Prop) (F : Int → Int → Option (Int ⊕ Int)) (hl : l.length ≤ 1048576)
    (hs : ∀ (i : Nat) (h : i < l.length) (left : Int), 0 ≤ left ∧ left ≤ 1048576 → (F left (i : Int) = some (.inl (-1))) ∨ ∃ r, 0 ≤ r ∧ r ≤ left ∧ Q l[i] ∧ F left (i : Int) = F r ((i + 1 : Nat) : Int))
    (he : ∀ left, F left (l.length : Int) = some (.inr left)) (left : Int) (h0 : 0 ≤ left ∧ left ≤ 1048576) : F left 0 = some (.inl (-1)) ∨ ∃ r, F left 0 = some (.inr r) ∧ 0 ≤ r ∧ r ≤ left ∧ ∀ x ∈ l, Q x := by
  have key : ∀ (d i : Nat) (left : Int), i + d = l.length → 0 ≤ left ∧ left ≤ 1048576 → F left (i : Int) = some (.inl (-1)) ∨ ∃ r, F left (i : Int) = some (.inr r) ∧ 0 ≤ r ∧ r ≤ left ∧ ∀ x ∈ l.drop i, Q x := by
    intro d
    induction d with
    | zero =>
      intro i left hi h0
      obtain rfl : i = l.length := by omega
      exact .inr ⟨left, he left, h0.1, Int.le_refl _, by simp⟩
    | succ d ih =>
      intro i left hi h0
      have hlt : i < l.length := by omega
      rcases hs i hlt left h0 with h | ⟨r, h1, h2, h3, h4⟩
      · exact .inl h
      · rw [h4]
        rcases ih (i + 1) r (by omega) ⟨h1, by omega⟩ with h | ⟨r', h5, h6, h7, h8⟩
        · exact .inl h
        · refine .inr ⟨r', h5, h6, by omega, fun x hx => ?_⟩
          rw [K3 hlt] at hx
          rcases Kd.1 hx with rfl | hx
          · exact h3
          · exact h8 x hx
  have := key l.length 0 left (by omega) h0
  simpa using this
theorem Qcq (a : Bool × List DChange) (left : Int) (h0 : 0 ≤ left ∧ left ≤ 1048576) (hl : a.2.length ≤ big) (hb : ∀ c ∈ a.2, c.2.2.length ≤ big) : ∃ r, F2x a left = some r ∧ (r < 0 ∨ (0 ≤ r ∧ r ≤ left ∧ a.2.length ≤ 1048576 ∧ ∀ c ∈ a.2, Q1p c)) := by
  rw [J5z] at hl
  rw [F2xE, wr (by omega)]
  by_cases h : (a.2.length : Int) ≤ left
  · rw [gF (by omega)]
    rcases Q8x a.2 Q1p (fun left i => Faa a left i) (by omega) (fun i h left h0 => by
      obtain ⟨r, h1, h2⟩ := Qe5 a.2[i] left h0 (hb _ (K4 h))
      rw [FaaE, gT (by omega), gT (by omega), gT (by omega), J2 a.2 _ i h, h1, J0]
      rcases h2 with h2 | ⟨h2, h3, h4⟩
      · rw [gT h2]; exact .inl rfl
      · rw [gF (by omega), up1 i (by omega), J1]; exact .inr ⟨r, h2, h3, h4, rfl⟩) (fun left => by
      rw [FaaE, gF (by omega)]) (left - a.2.length) (by omega) with h1 | ⟨r, h1, h2, h3, h4⟩
    · rw [h1]; exact ⟨-1, rfl, .inl (by omega)⟩
    · rw [h1]; exact ⟨r, rfl, .inr ⟨h2, by omega, by omega, h4⟩⟩
  · rw [gT (by omega)]
    exact ⟨_, rfl, .inl (by omega)⟩
theorem Qcr (c : DCommand) (left : Int) (h0 : 0 ≤ left ∧ left ≤ 1048576) (h1 : c.1.2.length ≤ big) (hl : c.2.2.length ≤ big) (hb : ∀ d ∈ c.2.2, d.2.2.length ≤ big) : ∃ r, F1a c left = some r ∧ (r < 0 ∨ (0 ≤ r ∧ r ≤ left ∧ Q1g c)) := by
  rw [F1aE, Q55 c.1 left h0 h1, J0]
  by_cases h : (c.1.2.length : Int) ≤ left
  · rw [if_pos h, gF (by omega)]
    obtain ⟨r, h2, h3⟩ := Qcq c.2 (left - c.1.2.length) (by omega) hl hb
    rw [h2, J0]
    rcases h3 with h3 | ⟨h3, h4, h5, h6⟩
    · rw [gT h3]; exact ⟨_, rfl, .inl (by omega)⟩
    · rw [gF (by omega)]; exact ⟨_, rfl, .inr ⟨h3, by omega, ⟨by omega, h5, h6⟩⟩⟩
  · rw [if_neg h, gT (by omega)]
    exact ⟨_, rfl, .inl (by omega)⟩
def Q5k (c : DCommand) : Prop := c.1.2.length ≤ big ∧ c.2.2.length ≤ big ∧ ∀ d ∈ c.2.2, d.2.2.length ≤ big
theorem Qax (a : Bool × List DCommand) (left : Int) (h0 : 0 ≤ left ∧ left ≤ 1048576) (hl : a.2.length ≤ big) (hb : ∀ c ∈ a.2, Q5k c) : ∃ r, F3e a left = some r ∧ (r < 0 ∨ (0 ≤ r ∧ r ≤ left ∧ a.2.length ≤ 1048576 ∧ ∀ c ∈ a.2, Q1g c)) := by
  rw [J5z] at hl
  rw [F3eE, wr (by omega)]
  by_cases h : (a.2.length : Int) ≤ left
  · rw [gF (by omega)]
    rcases Q8x a.2 Q1g (fun left i => F8v a left i) (by omega) (fun i h left h0 => by
      obtain ⟨b1, b2, b3⟩ := hb _ (K4 h)
      obtain ⟨r, h1, h2⟩ := Qcr a.2[i] left h0 b1 b2 b3
      rw [F8vE, gT (by omega), gT (by omega), gT (by omega), J2 a.2 _ i h, h1, J0]
      rcases h2 with h2 | ⟨h2, h3, h4⟩
      · rw [gT h2]; exact .inl rfl
      · rw [gF (by omega), up1 i (by omega), J1]; exact .inr ⟨r, h2, h3, h4, rfl⟩) (fun left => by
      rw [F8vE, gF (by omega)]) (left - a.2.length) (by omega) with h1 | ⟨r, h1, h2, h3, h4⟩
    · rw [h1]; exact ⟨-1, rfl, .inl (by omega)⟩
    · rw [h1]; exact ⟨r, rfl, .inr ⟨h2, by omega, by omega, h4⟩⟩
  · rw [gT (by omega)]
    exact ⟨_, rfl, .inl (by omega)⟩
theorem Qes {p : DProgram} (w : WfD tyProgram p) : p.2.2.1.2.length ≤ big ∧ p.2.2.2.2.length ≤ big ∧ ∀ c ∈ p.2.2.2.2, Q5k c := by
  obtain ⟨_, _, h1, h2⟩ := w
  refine ⟨h1.2.1, h2.2.1, fun c hc => ?_⟩
  obtain ⟨h3, h4⟩ := h2.2.2 c hc
  exact ⟨h3.2.1, h4.2.1, fun d hd => (h4.2.2 d hd).2.2.1⟩
theorem Qcs (p : DProgram) (w : WfD tyProgram p) (left : Int) (h0 : 0 ≤ left ∧ left ≤ 1048576) : ∃ r, F6p p left = some r ∧ (r < 0 ∨ (0 ≤ r ∧ r ≤ left ∧ Qa p)) := by
  obtain ⟨b1, b2, b3⟩ := Qes w
  rw [F6pE, Q55 p.2.2.1 left h0 b1, J0]
  by_cases h : (p.2.2.1.2.length : Int) ≤ left
  · rw [if_pos h, gF (by omega)]
    obtain ⟨r, h2, h3⟩ := Qax p.2.2.2 (left - p.2.2.1.2.length) (by omega) b2 b3
    rw [h2, J0]
    rcases h3 with h3 | ⟨h3, h4, h5, h6⟩
    · rw [gT h3]; exact ⟨_, rfl, .inl (by omega)⟩
    · rw [gF (by omega)]; exact ⟨_, rfl, .inr ⟨h3, by omega, ⟨by omega, h5, h6⟩⟩⟩
  · rw [if_neg h, gT (by omega)]
    exact ⟨_, rfl, .inl (by omega)⟩
/-! a copy: no slice is nil -/
def Q6a (c : DChange) : DChange := (c.1, (false, c.2.2))
def Q2l (c : DCommand) : DCommand := ((false, c.1.2), (false, c.2.2.map Q6a))
def Q5 (p : DProgram) : DProgram := (p.1, (p.2.1, ((false, p.2.2.1.2), (false, p.2.2.2.2.map Q2l))))
theorem Qct (a : Bool × List DChange) (hl : a.2.length ≤ 1048576) (hs : ∀ c ∈ a.2, Q1p c) : F2y a = some (false, a.2.map Q6a) := by
  have hlim : lim = 1099511627776 := rfl
  rw [F2yE, gT (by omega), gT (by omega), gT (by omega), gT (by omega), J1]
  exact J2y a.2 Q6a (fun o i => F8b a o i) false (fun i h x hx => by
    rw [F8bE, gT (by omega), gT (by omega), gT (by omega), J2 a.2 _ i h, F19E, Q56 _ (hs _ (K4 h)), J0, J0, gT (by omega), gT (by simp only; omega), up1 i (by omega), J1, K7]
    rfl) (fun x hx => by
    rw [F8bE, gF (by omega)]) (List.replicate (Int.toNat (a.2.length : Int)) (0, (true, []))) (by simp)
theorem Qaz (a : Bool × List DCommand) (hl : a.2.length ≤ 1048576) (hs : ∀ c ∈ a.2, Q1g c) : F3u a = some (false, a.2.map Q2l) := by
  have hlim : lim = 1099511627776 := rfl
  rw [F3uE, gT (by omega), gT (by omega), gT (by omega), gT (by omega), J1]
  exact J2y a.2 Q2l (fun o i => F8z a o i) false (fun i h x hx => by
    obtain ⟨s1, s2, s3⟩ := hs _ (K4 h)
    rw [F8zE, gT (by omega), gT (by omega), gT (by omega), J2 a.2 _ i h, F1bE, Q56 _ s1, J0, Qct _ s2 s3, J0, J0, gT (by omega), gT (by simp only; omega), up1 i (by omega), J1, K7]
    rfl) (fun x hx => by
    rw [F8zE, gF (by omega)]) (List.replicate (Int.toNat (a.2.length : Int)) ((true, []), (true, []))) (by simp)
theorem Qcu (p : DProgram) (hs : Qa p) : F4b p = some (Q5 p) := by
  obtain ⟨s1, s2, s3⟩ := hs
  rw [F4bE, Q56 _ s1, J0, Qaz _ s2 s3, J0]
  rfl
/-- two loops over one list that find no difference -/
theorem Q6c {α : Type} (l : List α) (F : Int → Option (Bool ⊕ Unit)) (hs : ∀ (i : Nat) (h : i < l.length), F (i : Int) = F ((i + 1 : Nat) : Int)) (he : F (l.length : Int) = some (.inr ())) : F 0 = some (.inr ()) := by
  have key : ∀ (d i : Nat), i + d = l.length → F (i : Int) = some (.inr ()) := by
    intro d
    induction d with
    | zero => intro i hi; obtain rfl : i = l.length := by omega
              exact he
    | succ d ih => intro i hi; rw [hs i (by omega)]; exact ih (i + 1) (by omega)
  simpa using key l.length 0 (by omega)
theorem Q5g (f g : Bool) (l : List DChange) (hl : l.length ≤ 1048576) (hs : ∀ c ∈ l, Q1p c) : F34 (f, l) (g, l) = some true := by
  rw [F34E, bF (by simp)]
  have := Q6c l (fun i => F7p (f, l) (g, l) i) (fun i h => by
    rw [F7pE, gT (by simp only; omega), gT (by omega), gT (by simp only; omega), gT (by omega), gT (by simp only; omega), J2 l _ i h, F11E, bF (by simp), Q1h l[i].2.1 l[i].2.1 l[i].2.2 (hs _ (K4 h)), J0, bF (by simp), J0, bF (by simp), up1 i (by omega), J1]) (by
    rw [F7pE, gF (by simp only; omega)])
  rw [this]
  rfl
theorem Q4t (f g : Bool) (l : List DCommand) (hl : l.length ≤ 1048576) (hs : ∀ c ∈ l, Q1g c) : F3s (f, l) (g, l) = some true := by
  rw [F3sE, bF (by simp)]
  have := Q6c l (fun i => F7u (f, l) (g, l) i) (fun i h => by
    obtain ⟨s1, s2, s3⟩ := hs _ (K4 h)
    rw [F7uE, gT (by simp only; omega), gT (by omega), gT (by simp only; omega), gT (by omega), gT (by simp only; omega), J2 l _ i h, F16E, Q1h l[i].1.1 l[i].1.1 l[i].1.2 s1, J0, bF (by simp), Q5g l[i].2.1 l[i].2.1 l[i].2.2 s2 s3, J0, bF (by simp), J0, bF (by simp), up1 i (by omega), J1]) (by
    rw [F7uE, gF (by simp only; omega)])
  rw [this]
  rfl
theorem Q5h (p : DProgram) (hs : Qa p) : F5h p p = some true := by
  obtain ⟨s1, s2, s3⟩ := hs
  rw [F5hE, bF (by simp), bF (by simp), Q1h p.2.2.1.1 p.2.2.1.1 p.2.2.1.2 s1, J0, bF (by simp), Q4t p.2.2.2.1 p.2.2.2.1 p.2.2.2.2 s2 s3, J0, bF (by simp)]
theorem Qer {p : DProgram} (hs : Qa p) : Qa (Q5 p) := by
  obtain ⟨s1, s2, s3⟩ := hs
  refine ⟨s1, by simpa [Q5] using s2, fun c hc => ?_⟩
  obtain ⟨c0, h1, rfl⟩ := Kt.1 hc
  obtain ⟨q1, q2, q3⟩ := s3 c0 h1
  refine ⟨q1, by simpa [Q2l] using q2, fun d hd => ?_⟩
  obtain ⟨d0, h2, rfl⟩ := Kt.1 hd
  exact q3 d0 h2
theorem Q89 (f g : Bool) (l : List Int) (hl : l.length ≤ 1048576) : F1s (f, l) (g, l) = some true := by
  rw [F1sE, bF (by simp), Q6c l (fun i => F8i (f, l) (g, l) i) (fun i h => by
    rw [F8iE, gT (by simp only; omega), gT (by omega), gT (by simp only; omega), gT (by omega), gT (by simp only; omega), bF (by simp), up1 i (by omega), J1]) (by rw [F8iE, gF (by simp)]), J0]
/-- the numbers from k on, n of them -/
def Q2g (k : Int) : Nat → List Int
  | 0 => []
  | n + 1 => k :: Q2g (k + 1) n
theorem Q69 (n : Nat) : ∀ k : Int, (Q2g k n).length = n := by
  induction n with
  | zero => intro k; rfl
  | succ n ih => intro k; simp [Q2g, ih]
theorem Q8l (d : Nat) : ∀ (i : Nat) (b : Bool) (x : List Int) (k : Int), i + d = x.length → x.length ≤ 1048576 → 0 ≤ k → k + d ≤ 4000000000000000000 → F9s (b, x) k (i : Int) = some ((b, x.take i ++ Q2g k d), k + d) := by
  induction d with
  | zero =>
    intro i b x k hi hl hk hk2
    rw [F9sE, gF (by simp only; omega), K1i (by omega)]
    simp [Q2g]
  | succ d ih =>
    intro i b x k hi hl hk hk2
    rw [F9sE, gT (by simp only; omega), gT (by omega), gT (by simp only; omega), up1 i (by omega), wr (by omega), J1, K7, ih (i + 1) b (x.set i k) (k + 1) (by simp; omega) (by simpa using hl) (by omega) (by omega)]
    have e : (x.set i k).take (i + 1) = x.take i ++ [k] := by
      rw [K1c (by simpa using (by omega : i < x.length)), List.getElem_set_self, List.take_set_of_le (K12 _)]
    rw [e, Q2g, Kk, List.singleton_append, show k + 1 + (d : Int) = k + ((d + 1 : Nat) : Int) by omega]
theorem Qds (b : Bool) (x : List Int) (k : Int) (hl : x.length ≤ 1048576) (h0 : 0 ≤ k) (hk : k + x.length ≤ 4000000000000000000) : F3t (b, x) k = some ((b, Q2g k x.length), k + x.length) := by
  have := Q8l x.length 0 b x k (by omega) hl h0 hk
  have h' : F9s (b, x) k 0 = _ := this
  rw [F3tE, h', J0, List.take_zero, Kv]
theorem Q8e (d : Nat) : ∀ (i : Nat) (b : Bool) (x : List Int) (k : Int), i + d = x.length → x.length ≤ 1048576 → 0 ≤ k → k + d ≤ 4000000000000000000 → x.drop i = Q2g k d → F83 (b, x) k (i : Int) = some (.inr (k + d)) := by
  induction d with
  | zero =>
    intro i b x k hi hl hk hk2 hx
    rw [F83E, gF (by simp only; omega)]
    simp
  | succ d ih =>
    intro i b x k hi hl hk hk2 hx
    have hlt : i < x.length := by omega
    rw [K3 hlt, Q2g] at hx
    obtain ⟨hx1, hx2⟩ := List.cons.inj hx
    rw [F83E, gT (by simp only; omega), gT (by omega), gT (by simp only; omega), J2 x _ i hlt, hx1, bF (by simp), up1 i (by omega), wr (by omega), J1, ih (i + 1) b x (k + 1) (by omega) hl (by omega) (by omega) hx2]
    congr 2
    omega
theorem Qde (b : Bool) (n : Nat) (k : Int) (hl : n ≤ 1048576) (h0 : 0 ≤ k) (hk : k + n ≤ 4000000000000000000) : F2d (b, Q2g k n) k = some (k + n) := by
  have h1 := Q69 n k
  have := Q8e n 0 b (Q2g k n) k (by omega) (by omega) h0 (by omega) rfl
  have h' : F83 (b, Q2g k n) k 0 = _ := this
  rw [F2dE, h', J0]
theorem Q18 {α : Type} (l : List α) (i : Nat) (x z : α) (h : i < l.length) : (l.set i x).getD i z = x := by
  simp [K1, h]
/-- the numbers from k on, two for each node, n Jy -/
def Q2h (k : Int) : Nat → List DNode
  | 0 => []
  | n + 1 => (k, IntKind.u64.wrap (k + 1)) :: Q2h (k + 2) n
theorem Q3h (n : Nat) : ∀ k : Int, (Q2h k n).length = n := by
  induction n with
  | zero => intro k; rfl
  | succ n ih => intro k; simp [Q2h, ih]
theorem Q7j (d : Nat) : ∀ (i : Nat) (b : Bool) (x : List DNode) (k : Int), i + d = x.length → x.length ≤ 1048576 → 0 ≤ k → k + 2 * d ≤ 4000000000000000000 → F8k (b, x) k (i : Int) = some ((b, x.take i ++ Q2h k d), k + 2 * d) := by
  induction d with
  | zero =>
    intro i b x k hi hl hk hk2
    rw [F8kE, gF (by simp only; omega), K1i (by omega)]
    simp [Q2h]
  | succ d ih =>
    intro i b x k hi hl hk hk2
    have hlt : i < x.length := by omega
    have hw : IntKind.i64.wrap (k + 1) = k + 1 := wr (by omega)
    have e1 : (x.set i (k, (x.getD i (0, 0)).2)).getD i (0, 0) = (k, (x.getD i (0, 0)).2) := Q18 x i _ _ hlt
    rw [F8kE, gT (by simp only; omega), gT (by omega), gT (by simp only; omega), gT (by omega), gT (by rw [Ku]; simp only; omega), up1 i (by omega), hw, wr (by omega), J1]
    simp only [K7, e1, List.set_set]
    rw [ih (i + 1) b (x.set i (k, IntKind.u64.wrap (k + 1))) (k + 1 + 1) (by rw [Ku]; omega) (by rw [Ku]; exact hl) (by omega) (by omega)]
    have e : (x.set i (k, IntKind.u64.wrap (k + 1))).take (i + 1) = x.take i ++ [(k, IntKind.u64.wrap (k + 1))] := by
      rw [K1c (by rw [Ku]; exact hlt), List.getElem_set_self, List.take_set_of_le (K12 _)]
    rw [e, Q2h, Kk, List.singleton_append, show k + 1 + 1 + 2 * (d : Int) = k + 2 * ((d + 1 : Nat) : Int) by omega, show k + 1 + 1 = k + 2 by omega]
theorem Q2o (a : Bool × List DNode) (k : Int) (hl : a.2.length ≤ 1048576) (h0 : 0 ≤ k) (hk : k + 2 * a.2.length ≤ 4000000000000000000) : Fc a k = some ((a.1, Q2h k a.2.length), k + 2 * a.2.length) := by
  have h2 := Q7j a.2.length 0 a.1 a.2 k (by omega) hl h0 hk
  have h' : F8k (a.1, a.2) k 0 = _ := h2
  rw [FcE, h', J0, List.take_zero, Kv]
theorem Q4y (a : Bool × List DNode) (k : Int) (hl : a.2.length ≤ 1048576) (h0 : 0 ≤ k) (hk : k + 2 * 1048576 ≤ 4000000000000000000) : ∃ y k', y.length = a.2.length ∧ Fc a k = some ((a.1, y), k') ∧ k ≤ k' ∧ k' ≤ k + 2 * 1048576 :=
  ⟨_, _, Q3h _ _, Q2o a k hl h0 (by omega), by omega, by omega⟩
theorem Q7h {α : Type} (P : α → Prop) (A : Int) (hA : 0 ≤ A) (F : Bool × List α → Int → Int → Option ((Bool × List α) × Int)) (b : Bool) (n : Nat)
    (hs : ∀ (i : Nat) (x : List α) (k : Int) (h : i < x.length), x.length = n → P x[i] → 0 ≤ k → k + A ≤ 4000000000000000000 → ∃ e k', F (b, x) k (i : Int) = F (b, x.set i e) k' ((i + 1 : Nat) : Int) ∧ k ≤ k' ∧ k' ≤ k + A)
    (he : ∀ (x : List α) (k : Int), x.length = n → F (b, x) k (n : Int) = some ((b, x), k)) (d : Nat) : ∀ (i : Nat) (x : List α) (k : Int), i + d = n → x.length = n → (∀ e ∈ x.drop i, P e) → 0 ≤ k → k + d * A ≤ 4000000000000000000 →
    ∃ y k', y.length = x.length ∧ F (b, x) k (i : Int) = some ((b, y), k') ∧ k ≤ k' ∧ k' ≤ k + d * A := by
  induction d with
  | zero =>
    intro i x k hi hx hp hk hk2
    obtain rfl : i = n := by omega
    exact ⟨x, k, rfl, he x k hx, by omega, by simp⟩
  | succ d ih =>
    intro i x k hi hx hp hk hk2
    have e1 : ((d + 1 : Nat) : Int) * A = d * A + A := by rw [Int.natCast_add, Int.add_mul]; simp
    have e2 : 0 ≤ (d : Int) * A := Int.mul_nonneg (by omega) hA
    rw [e1] at hk2
    have hlt : i < x.length := by omega
    rw [K3 hlt] at hp
    obtain ⟨e, k1, q2, q3, q4⟩ := hs i x k hlt hx (hp _ Kp) hk (by omega)
    obtain ⟨y, k2, r1, r2, r3, r4⟩ := ih (i + 1) (x.set i e) k1 (by omega) (by rw [Ku]; exact hx) (fun c hc => by
      rw [List.drop_set_of_lt (by omega)] at hc
      exact hp c (K8 _ hc)) (by omega) (by omega)
    rw [Ku] at r1
    exact ⟨y, k2, r1, by rw [q2, r2], by omega, by rw [e1]; omega⟩
theorem Q8k (a : Bool × List DChange) (k : Int) (hl : a.2.length ≤ 1048576) (hs : ∀ c ∈ a.2, Q1p c) (h0 : 0 ≤ k) (hk : k + 1048576 * 2097153 ≤ 4000000000000000000) : ∃ y k', y.length = a.2.length ∧ F31 a k = some ((a.1, y), k') ∧ k ≤ k' ∧ k' ≤ k + 1048576 * 2097153 := by
  obtain ⟨y, k', h1, h2, h3, h4⟩ := Q7h Q1p 2097153 (by omega) F8y a.1 a.2.length (fun i x k h hx hp hk hk2 => by
    have hw : IntKind.i64.wrap (k + 1) = k + 1 := wr (by omega)
    obtain ⟨y, k', q1, q2, q3, q4⟩ := Q4y x[i].2 (k + 1) hp (by omega) (by omega)
    refine ⟨(k, (x[i].2.1, y)), k', ?_, by omega, by omega⟩
    have e0 : x.getD i (0, (true, [])) = x[i] := by simp [K1, h]
    have e1 : (x.set i (k, x[i].2)).getD i (0, (true, [])) = (k, x[i].2) := Q18 x i _ _ h
    rw [F8yE, gT (by simp only; omega), gT (by omega), gT (by simp only; omega), gT (by omega), gT (by rw [Ku]; simp only; omega), up1 i (by omega), hw]
    have q2' : Fc (x[i].2.1, x[i].2.2) (k + 1) = some ((x[i].2.1, y), k') := q2
    simp only [K7, e0, e1, q2', J0, J1, List.set_set]) (fun x k hx => by rw [F8yE, gF (by simp only; omega)]) a.2.length 0 a.2 k (by omega) rfl (by simpa using hs) h0 (by omega)
  have h' : F8y (a.1, a.2) k 0 = _ := h2
  exact ⟨y, k', h1, by rw [F31E, h', J0], h3, by omega⟩
theorem Q7i (a : Bool × List DCommand) (k : Int) (hl : a.2.length ≤ 1048576) (hs : ∀ c ∈ a.2, Q1g c) (h0 : 0 ≤ k) (hk : k + 1048576 * 2199026401280 ≤ 4000000000000000000) : ∃ y k', y.length = a.2.length ∧ F2n a k = some ((a.1, y), k') ∧ k ≤ k' ∧ k' ≤ k + 1048576 * 2199026401280 := by
  obtain ⟨y, k', h1, h2, h3, h4⟩ := Q7h Q1g 2199026401280 (by omega) F7i a.1 a.2.length (fun i x k h hx hp hk hk2 => by
    obtain ⟨y, k1, q1, q2, q3, q4⟩ := Q4y x[i].1 k hp.1 (by omega) (by omega)
    obtain ⟨z, k2, r1, r2, r3, r4⟩ := Q8k x[i].2 k1 hp.2.1 hp.2.2 (by omega) (by omega)
    refine ⟨((x[i].1.1, y), (x[i].2.1, z)), k2, ?_, by omega, by omega⟩
    have e0 : x.getD i ((true, []), (true, [])) = x[i] := by simp [K1, h]
    have e1 : (x.set i ((x[i].1.1, y), x[i].2)).getD i ((true, []), (true, [])) = ((x[i].1.1, y), x[i].2) := Q18 x i _ _ h
    have q2' : Fc (x[i].1.1, x[i].1.2) k = some ((x[i].1.1, y), k1) := q2
    have r2' : F31 (x[i].2.1, x[i].2.2) k1 = some ((x[i].2.1, z), k2) := r2
    rw [F7iE, gT (by simp only; omega), gT (by omega), gT (by simp only; omega), up1 i (by omega)]
    simp only [K7, e0, q2', J0]
    rw [gT (by omega), gT (by omega)]
    simp only [e1, r2', J0, J1, List.set_set]) (fun x k hx => by rw [F7iE, gF (by simp only; omega)]) a.2.length 0 a.2 k (by omega) rfl (by simpa using hs) h0 (by omega)
  have h' : F7i (a.1, a.2) k 0 = _ := h2
  exact ⟨y, k', h1, by rw [F2nE, h', J0], h3, by omega⟩
/-- the laws write over their own copy of a program -/
theorem Q8m (p : DProgram) (hs : Qa p) (k : Int) (h0 : 0 ≤ k) (hk : k ≤ 1000000000) : ∃ y z k', F73 p.1 p.2.1 (p.2.2.1.1, p.2.2.1.2) (p.2.2.2.1, p.2.2.2.2) k = some (y, (z, k')) ∧ k ≤ k' ∧ k' ≤ 3000000000000000000 := by
  obtain ⟨y, k1, q1, q2, q3, q4⟩ := Q4y p.2.2.1 k hs.1 (by omega) (by omega)
  obtain ⟨z, k2, r1, r2, r3, r4⟩ := Q7i p.2.2.2 k1 hs.2.1 hs.2.2 (by omega) (by omega)
  have q2' : Fc (p.2.2.1.1, p.2.2.1.2) k = _ := q2
  have r2' : F2n (p.2.2.2.1, p.2.2.2.2) k1 = _ := r2
  exact ⟨_, _, k2, by rw [F73E, q2', J0, r2', J0], by omega, by omega⟩
def Q47 (a : List (Bool × List DNode)) : Prop := a.length ≤ 1048576 ∧ ∀ x ∈ a, x.2.length ≤ 1048576
theorem Qe6 (a : Bool × List (Bool × List DNode)) (left : Int) (h0 : 0 ≤ left ∧ left ≤ 1048576) (hl : a.2.length ≤ big) (hb : ∀ x ∈ a.2, x.2.length ≤ big) : ∃ r, F30 a left = some r ∧ (r < 0 ∨ (0 ≤ r ∧ r ≤ left ∧ Q47 a.2)) := by
  rw [J5z] at hl
  rw [F30E, wr (by omega)]
  by_cases h : left - (a.2.length : Int) < 0
  · rw [gT h]
    exact ⟨-1, rfl, .inl (by omega)⟩
  · rw [gF h]
    rcases Q8x a.2 (fun x => x.2.length ≤ 1048576) (fun l i => F8g a l i) (by omega) (fun i hi l hl2 => by
      rw [F8gE, gT (by omega), gT (by omega), gT (by omega), J2 a.2 _ i hi, Q55 _ l hl2 (hb _ (K4 hi)), J0, up1 i (by omega), J1]
      by_cases c : (a.2[i].2.length : Int) ≤ l
      · rw [if_pos c, gF (by omega)]
        exact .inr ⟨_, by omega, by omega, by omega, rfl⟩
      · rw [if_neg c, gT (by omega)]
        exact .inl rfl) (fun l => by rw [F8gE, gF (by omega)]) (left - a.2.length) (by omega) with h1 | ⟨r, h1, h2, h3, h4⟩
    · exact ⟨-1, by rw [h1, J0], .inl (by omega)⟩
    · exact ⟨r, by rw [h1, J0], .inr ⟨h2, by omega, by omega, h4⟩⟩
def Q2z (a : List (Bool × List DNode)) : List (Bool × List DNode) := a.map fun x => (false, x.2)
theorem Qb3 {a : List (Bool × List DNode)} (h : Q47 a) : Q47 (Q2z a) := by
  refine ⟨by rw [Q2z, Ky]; exact h.1, fun x hx => ?_⟩
  obtain ⟨y, hy, rfl⟩ := Kt.1 hx
  exact h.2 y hy
theorem Qe8 (a : Bool × List (Bool × List DNode)) (hs : Q47 a.2) : F1n a = some (false, Q2z a.2) := by
  have hlim := J7
  have hl := hs.1
  rw [F1nE, gT (by omega), gT (by omega), gT (by omega), gT (by omega)]
  have := J2y a.2 (fun x => (false, x.2)) (fun o i => F9n a o i) false (fun i h x hx => by
    rw [F9nE, gT (by omega), gT (by omega), gT (by omega), J2 a.2 _ i h, Q56 _ (hs.2 _ (K4 h)), J0, gT (by omega), gT (by simp only; omega), up1 i (by omega), J1, K7]) (fun x hx => by
    rw [F9nE, gF (by omega)]) (List.replicate (Int.toNat (a.2.length : Int)) ((true, []) : Bool × List DNode)) (by simp)
  rw [this, J0]
  rfl
theorem Q6b (f g : Bool) (a b : List (Bool × List DNode)) (hs : Q47 a) (h : a.map Prod.snd = b.map Prod.snd) : F3h (f, a) (g, b) = some true := by
  have hl := hs.1
  have hlen : a.length = b.length := by have := congrArg List.length h; simpa using this
  rw [F3hE, bF (by simp [hlen]), Q6c a (fun i => F9b (f, a) (g, b) i) (fun i hi => by
    have hi2 : i < b.length := by omega
    have e : b[i].2 = a[i].2 := by
      have h1 : (a.map Prod.snd)[i]'(by simpa using hi) = (b.map Prod.snd)[i]'(by simpa using hi2) := by simp only [h]
      simpa using h1.symm
    have e2 : Fb a[i] b[i] = some true := by
      have := Q1h a[i].1 b[i].1 a[i].2 (hs.2 _ (K4 hi))
      rw [show b[i] = (b[i].1, a[i].2) by rw [← e]]
      exact this
    rw [F9bE, gT (by simp only; omega), gT (by omega), gT (by simp only; omega), gT (by omega), gT (by simp only; omega), J2 a _ i hi, J2 b _ i hi2, e2, J0, K6, cond_false, up1 i (by omega), J1]) (by rw [F9bE, gF (by simp)]), J0]
/-- how many numbers the marks of rows take -/
def Q21 (a : List (Bool × List DNode)) : Nat := (a.map fun x => x.2.length).sum
/-- rows, Qek from k on -/
def Q4q (k : Int) : List (Bool × List DNode) → List (Bool × List DNode)
  | [] => []
  | x :: a => (x.1, Q2h k x.2.length) :: Q4q (k + 2 * x.2.length) a
theorem Q6m (b : Bool) (d : Nat) : ∀ (i : Nat) (x : List (Bool × List DNode)) (k : Int), i + d = x.length → Q47 x → 0 ≤ k → k + 2 * (Q21 (x.drop i)) ≤ 4000000000000000000 → F9x (b, x) k (i : Int) = some ((b, x.take i ++ Q4q k (x.drop i)), k + 2 * Q21 (x.drop i)) := by
  induction d with
  | zero =>
    intro i x k hi hs hk hk2
    rw [F9xE, gF (by simp only; omega), K1i (by omega), Ka (by omega)]
    simp [Q4q, Q21]
  | succ d ih =>
    intro i x k hi hs hk hk2
    have hl := hs.1
    have hlt : i < x.length := by omega
    rw [K3 hlt] at hk2 ⊢
    simp only [Q21, K14, List.sum_cons] at hk2 ⊢
    have hm := Q2o x[i] k (hs.2 _ (K4 hlt)) hk (by omega)
    have hm' : Fc (x[i].1, x[i].2) k = _ := hm
    have hd : (x.set i (x[i].1, Q2h k x[i].2.length)).drop (i + 1) = x.drop (i + 1) := List.drop_set_of_lt (by omega)
    rw [F9xE, gT (by simp only; omega), gT (by omega), gT (by simp only; omega), J2 x _ i hlt, hm', J0, up1 i (by omega), J1, K7]
    have h2 := ih (i + 1) (x.set i (x[i].1, Q2h k x[i].2.length)) (k + 2 * x[i].2.length) (by rw [Ku]; omega) ⟨by rw [Ku]; exact hl, fun y hy => by
      rcases List.mem_or_eq_of_mem_set hy with h | h
      · exact hs.2 y h
      · rw [h, Q3h]; exact hs.2 _ (K4 hlt)⟩ (by omega) (by rw [hd, Q21]; omega)
    rw [hd] at h2
    rw [h2]
    have e : (x.set i (x[i].1, Q2h k x[i].2.length)).take (i + 1) = x.take i ++ [(x[i].1, Q2h k x[i].2.length)] := by
      rw [K1c (by rw [Ku]; exact hlt), List.getElem_set_self, List.take_set_of_le (K12 _)]
    rw [e, Q4q, Kk, List.singleton_append]
    congr 2
    simp only [Q21]
    omega
theorem Qco (a : List (Bool × List DNode)) (hs : ∀ x ∈ a, x.2.length ≤ 1048576) : Q21 a ≤ a.length * 1048576 := by
  induction a with
  | nil => simp [Q21]
  | cons x a ih =>
    have h1 := hs x Kp
    have h2 := ih fun y hy => hs y (K8 _ hy)
    simp only [Q21, K14, List.sum_cons, Ks] at h2 ⊢
    rw [K16]
    omega
theorem Q4m {a : List (Bool × List DNode)} (hs : Q47 a) : Q21 a ≤ 1099511627776 := by
  have h1 := Qco a hs.2
  have h2 : a.length * 1048576 ≤ 1048576 * 1048576 := Ko _ hs.1
  omega
theorem Qam (b : Bool) (a : List (Bool × List DNode)) (k : Int) (hs : Q47 a) (h0 : 0 ≤ k) (hk : k ≤ 3500000000000000000) : F33 (b, a) k = some ((b, Q4q k a), k + 2 * Q21 a) := by
  have hz := Q4m hs
  have h := Q6m b a.length 0 a k (by omega) hs h0 (by rw [Kg]; omega)
  rw [Kg, List.take_zero, Kv] at h
  have h' : F9x (b, a) k 0 = _ := h
  rw [F33E, h', J0]
/-- What an operation needs: how many operands, their kind, its own kind. -/
def need (op : Int) : Int × Int × Int :=
  if op = 1 ∨ op = 2 then (0, 1, 1) else if op = 20 then (0, 2, 2) else if op = 13 then (1, 1, 1) else if op = 19 then (1, 2, 2)
  else if 3 ≤ op ∧ op ≤ 12 then (2, 1, 1) else if 14 ≤ op ∧ op ≤ 16 then (2, 1, 2) else if op = 17 ∨ op = 18 then (2, 2, 2) else (0, 0, 0)
theorem Q5q (op : Int) : need op = (0, 1, 1) ∨ need op = (0, 2, 2) ∨ need op = (1, 1, 1) ∨ need op = (1, 2, 2) ∨ need op = (2, 1, 1) ∨ need op = (2, 1, 2) ∨ need op = (2, 2, 2) ∨ need op = (0, 0, 0) := by
  unfold need
  repeat' split
  all_goals simp
theorem Q3o (op : Int) : ∃ m : Nat, (need op).1 = (m : Int) ∧ m ≤ 2 := by
  rcases Q5q op with h | h | h | h | h | h | h | h <;> rw [h]
  · exact ⟨0, rfl, by omega⟩
  · exact ⟨0, rfl, by omega⟩
  · exact ⟨1, rfl, by omega⟩
  · exact ⟨1, rfl, by omega⟩
  · exact ⟨2, rfl, by omega⟩
  · exact ⟨2, rfl, by omega⟩
  · exact ⟨2, rfl, by omega⟩
  · exact ⟨0, rfl, by omega⟩
theorem Q9l (op : Int) : F4g op = some (need op) := by
  rw [F4gE, Q2n, Q2n]
  unfold need
  by_cases h1 : op = 1
  · simp [h1]
  · by_cases h2 : op = 2
    · simp [h2]
    · by_cases h3 : op = 20
      · simp [h3]
      · by_cases h4 : op = 13
        · simp [h4]
        · by_cases h5 : op = 19
          · simp [h5]
          · by_cases h6 : 3 ≤ op ∧ op ≤ 12
            · simp [h1, beqF h1, h2, beqF h2, h3, beqF h3, h4, beqF h4, h5, beqF h5, h6]
            · by_cases h8 : 14 ≤ op ∧ op ≤ 16
              · have h6' : ¬ (3 ≤ op ∧ op ≤ 12) := h6
                simp [h1, beqF h1, h2, beqF h2, h3, beqF h3, h4, beqF h4, h5, beqF h5, h6', h8]
              · by_cases h10 : op = 17
                · simp [h10]
                · by_cases h11 : op = 18
                  · simp [h11]
                  · have h6' : ¬ (3 ≤ op ∧ op ≤ 12) := h6
                    have h8' : ¬ (14 ≤ op ∧ op ≤ 16) := h8
                    simp [h1, beqF h1, h2, beqF h2, h3, beqF h3, h4, beqF h4, h5, beqF h5, h6', h8', h10, beqF h10, h11, beqF h11]
/-- The program names no kind for an operation without operands. -/
def Q8n (op : Int) : Int × Int × Int := if op = 1 ∨ op = 2 then (0, 0, 1) else if op = 20 then (0, 0, 2) else need op
theorem Q5r (op : Int) : F4v op = some (Q8n op) := by
  rw [F4vE]
  unfold Q8n need
  by_cases h1 : op = 1
  · simp [h1]
  · by_cases h2 : op = 2
    · simp [h2]
    · by_cases h3 : op = 20
      · simp [h3]
      · by_cases h4 : op = 13
        · simp [h4]
        · by_cases h5 : op = 19
          · simp [h5]
          · by_cases h6 : 3 ≤ op
            · by_cases h7 : op ≤ 12
              · simp [h1, beqF h1, h2, beqF h2, h3, beqF h3, h4, beqF h4, h5, beqF h5, h6, h7]
              · by_cases h8 : 14 ≤ op
                · by_cases h9 : op ≤ 16
                  · simp [h1, beqF h1, h2, beqF h2, h3, beqF h3, h4, beqF h4, h5, beqF h5, h6, h7, h8, h9]
                  · by_cases h10 : op = 17
                    · simp [h10]
                    · by_cases h11 : op = 18
                      · simp [h11]
                      · simp [h1, beqF h1, h2, beqF h2, h3, beqF h3, h4, beqF h4, h5, beqF h5, h6, h7, h8, h9, h10, beqF h10, h11, beqF h11]
                · have h10 : ¬ op = 17 := by omega
                  have h11 : ¬ op = 18 := by omega
                  simp [h1, beqF h1, h2, beqF h2, h3, beqF h3, h4, beqF h4, h5, beqF h5, h6, h7, h8, h10, beqF h10, h11, beqF h11]
            · have h8 : ¬ 14 ≤ op := by omega
              have h10 : ¬ op = 17 := by omega
              have h11 : ¬ op = 18 := by omega
              simp [h1, beqF h1, h2, beqF h2, h3, beqF h3, h4, beqF h4, h5, beqF h5, h6, h8, h10, beqF h10, h11, beqF h11]
theorem Q4z (op : Int) : (Q8n op).1 = (need op).1 ∧ (Q8n op).2.2 = (need op).2.2 ∧ ((need op).1 = 0 ∨ (Q8n op).2.1 = (need op).2.1) := by
  unfold Q8n
  by_cases h1 : op = 1 ∨ op = 2
  · simp [need, h1]
  · by_cases h2 : op = 20
    · simp [need, h2]
    · simp [h1, h2]
/-- Is an operation's number right? -/
def Q1r (wide vars op n : Int) : Bool := if op = 1 then Q2v wide n else if op = 2 then decide (n < vars) else if op = 20 then decide (n < 2) else n == 0
theorem l2N (wide vars : Int) (x : DNode) (hv : 0 ≤ vars ∧ vars ≤ 4) (h : U64 x.2) : F3j wide vars x = some (Q1r wide vars x.1 x.2) := by
  rw [F3jE, Q2e wide x.2 h, wru (by omega)]
  unfold Q1r
  by_cases a1 : x.1 = 1
  · simp [a1]
  · by_cases a2 : x.1 = 2
    · simp [a2]
    · by_cases a3 : x.1 = 20
      · simp [a3]
      · simp [a1, a2, a3, beqF a1, beqF a2, beqF a3]
theorem Q8h (wide vars : Int) (x : DNode) (hv : 0 ≤ vars ∧ vars ≤ 4) : F5x wide vars x = some (Q1r wide vars x.1 x.2) := by
  rw [F5xE, Q2a wide x.2, wru (by omega)]
  unfold Q1r
  by_cases a1 : x.1 = 1
  · simp [a1]
  · by_cases a2 : x.1 = 2
    · simp [a2]
    · by_cases a3 : x.1 = 20
      · simp [a3]
        omega
      · simp [a1, a2, a3, beqF a1, beqF a2, beqF a3]
/-- One operation on the stack of kinds. -/
def Q4g (wide vars : Int) (st : List Int) (x : DNode) : Option (List Int) :=
  if (need x.1).2.2 = 0 then none else if Q1r wide vars x.1 x.2 = true then
    (if (st.length : Int) < (need x.1).1 then none else if (st.drop (st.length - (need x.1).1.toNat)).all (fun y => y == (need x.1).2.1) = true then some (st.take (st.length - (need x.1).1.toNat) ++ [(need x.1).2.2]) else none)
  else none
def Q1b (wide vars : Int) : List DNode → List Int → Option (List Int)
  | [], st => some st
  | x :: xs, st => (Q4g wide vars st x).bind (Q1b wide vars xs)
/-- A term's kind: 0 for none. -/
def Q1 (wide vars : Int) (t : List DNode) : Int :=
  if 1 ≤ wide ∧ wide ≤ 64 ∧ 1 ≤ vars ∧ vars ≤ 4 ∧ 1 ≤ t.length ∧ t.length ≤ 48 then (match Q1b wide vars t [] with
    | some [a] => a
    | _ => 0) else 0
theorem Qbz (wide vars part own n i : Int) (t : Bool × List DNode) (m : Nat) : ∀ (b : Bool) (st : List Int), m ≤ st.length → st.length < 1000 →
    F9v wide vars (b, st) (m : Int) part own t n i = if (st.drop (st.length - m)).all (fun y => y == part) = true then some (.inr (b, st.take (st.length - m))) else some (.inl 0) := by
  induction m with
  | zero =>
    intro b st hm hs
    rw [F9vE, gF (by omega)]
    simp
  | succ m ih =>
    intro b st hm hs
    rcases List.eq_nil_or_concat st with rfl | ⟨st', a, rfl⟩
    · simp at hm
    · rw [List.concat_eq_append] at *
      simp only [Kj, K1z] at hm hs ⊢
      have e1 : IntKind.i64.wrap (((st'.length + 1 : Nat) : Int) - 1) = (st'.length : Int) := by rw [wr (by omega)]; omega
      have e2 : IntKind.i64.wrap (((m + 1 : Nat) : Int) - 1) = (m : Int) := by rw [wr (by omega)]; omega
      have e3 : (st' ++ [a]).getD (Int.toNat (st'.length : Int)) 0 = a := by
        rw [J2 _ _ _ (by simp)]
        simp
      have e4 : (st' ++ [a]).take st'.length = st' := List.take_left' rfl
      rw [F9vE]
      simp only [Kj, K1z]
      rw [e1, e2, e3, gT (by omega), gT (by omega), gT (by omega), gT (by omega), gT (by omega), K7, e4, Kg, J1,
        show st'.length + 1 - (m + 1) = st'.length - m by omega, List.drop_append_of_le_length (by omega), List.all_append, List.take_append_of_le_length (by omega)]
      by_cases ha : a = part
      · rw [bF (by simp [ha]), ih b st' (by omega) (by omega)]
        simp [ha]
      · rw [bT (by simp [ha])]
        simp [ha]
theorem Qby (wide vars : Int) (t : Bool × List DNode) (ht : t.2.length ≤ 48) (hv : 0 ≤ vars ∧ vars ≤ 4) (hw : ∀ x ∈ t.2, U64 x.2) (d : Nat) : ∀ (i : Nat) (b : Bool) (st : List Int), i + d = t.2.length → st.length ≤ i →
    (Q1b wide vars (t.2.drop i) st = none ∧ F7h wide vars (b, st) t (t.2.length : Int) (i : Int) = some (.inl 0)) ∨ ∃ b' s, Q1b wide vars (t.2.drop i) st = some s ∧ F7h wide vars (b, st) t (t.2.length : Int) (i : Int) = some (.inr (b', s)) := by
  induction d with
  | zero =>
    intro i b st hi hs
    rw [F7hE, gF (by omega), Ka (by omega)]
    exact .inr ⟨b, st, rfl, rfl⟩
  | succ d ih =>
    intro i b st hi hs
    have hlt : i < t.2.length := by omega
    have hx := hw _ (K4 hlt)
    have hlim : lim = 1099511627776 := rfl
    rw [F7hE, gT (by omega), gT (by omega), gT (by omega), J2 t.2 _ i hlt, Q9l, J0, K3 hlt]
    simp only [Q1b, Q4g]
    rw [l2N wide vars _ hv hx]
    by_cases h0 : (need t.2[i].1).2.2 = 0
    · rw [bT (by simp [h0]), if_pos h0]; exact .inl ⟨rfl, rfl⟩
    · rw [bF (by simp [h0]), if_neg h0, J0]
      cases hl : Q1r wide vars t.2[i].1 t.2[i].2 with
      | false => exact .inl ⟨rfl, rfl⟩
      | true =>
        rw [bF (by simp), if_pos rfl]
        by_cases hn : (st.length : Int) < (need t.2[i].1).1
        · rw [gT hn, if_pos hn]; exact .inl ⟨rfl, rfl⟩
        · rw [gF hn, if_neg hn]
          obtain ⟨m, hm, hm2⟩ := Q3o t.2[i].1
          rw [hm] at hn ⊢
          rw [K7, Qbz wide vars _ _ _ _ t m b st (by omega) (by omega)]
          by_cases ha : (st.drop (st.length - m)).all (fun y => y == (need t.2[i].1).2.1) = true
          · rw [if_pos ha, if_pos ha]
            simp only [J0]
            rw [gT (by simp; omega), up1 i (by omega), J1]
            exact ih (i + 1) _ _ (by omega) (by simp; omega)
          · rw [if_neg ha, if_neg ha, J0]
            exact .inl ⟨rfl, rfl⟩
theorem Q9k (wide vars : Int) (t : Bool × List DNode) (hw : ∀ x ∈ t.2, U64 x.2) : Fr wide vars t = some (Q1 wide vars t.2) := by
  rw [FrE, Q7e, Q2n, Q2n, J0, J0, J0]
  unfold Q1
  by_cases h1 : 1 ≤ wide ∧ wide ≤ 64
  · by_cases h3 : 1 ≤ vars ∧ vars ≤ 4
    · by_cases h5 : 1 ≤ (t.2.length : Int) ∧ (t.2.length : Int) ≤ 48
      · rw [bF (by simp [h1]), bF (by simp [h3]), bF (by simp; omega), if_pos (by omega)]
        rcases Qby wide vars t (by omega) (by omega) hw t.2.length 0 true [] (by omega) (by simp) with ⟨k1, k2⟩ | ⟨b, s, k1, k2⟩
        · rw [show ((0 : Nat) : Int) = 0 from rfl] at k2
          rw [k2, J0]
          rw [Kg] at k1
          rw [k1]
        · rw [show ((0 : Nat) : Int) = 0 from rfl] at k2
          rw [k2, J0]
          rw [Kg] at k1
          rw [k1]
          match s with
          | [] => simp
          | [a] => simp
          | a :: b :: st =>
            have : (((a :: b :: st).length : Int) != 1) = true := by simp; omega
            simp only
            rw [bT this]
      · rw [bF (by simp [h1]), bF (by simp [h3]), bT (by simp; omega), if_neg (by omega)]
    · rw [bF (by simp [h1]), bT (by simp; omega), if_neg (by omega)]
  · rw [bT (by simp; omega), if_neg (by omega)]
theorem Qx {wide vars : Int} {t : List DNode} (h : Q1 wide vars t ≠ 0) : 1 ≤ wide ∧ wide ≤ 64 ∧ 1 ≤ vars ∧ vars ≤ 4 ∧ 1 ≤ t.length ∧ t.length ≤ 48 := by
  unfold Q1 at h
  split at h
  · assumption
  · exact absurd rfl h
theorem Q5o (wide vars : Int) : ∀ (xs : List DNode) (st r : List Int), Q1b wide vars xs st = some r → ∀ h : xs ≠ [], (∃ r', r = r' ++ [(need (xs.getLast h).1).2.2]) ∧ (need (xs.getLast h).1).2.2 ≠ 0 := by
  intro xs
  induction xs with
  | nil => intro st r _ h; exact absurd rfl h
  | cons x xs ih =>
    intro st r hr h
    simp only [Q1b, Ke] at hr
    obtain ⟨s, h1, h2⟩ := hr
    cases xs with
    | nil =>
      simp only [Q1b, K0] at h2
      subst h2
      simp only [List.getLast_singleton]
      unfold Q4g at h1
      split at h1
      · simp at h1
      · rename_i hne
        split at h1
        · split at h1
          · simp at h1
          · split at h1
            · simp only [K0] at h1
              exact ⟨⟨_, h1.symm⟩, hne⟩
            · simp at h1
        · simp at h1
    | cons y ys =>
      have := ih s r h2 (by simp)
      rwa [List.getLast_cons (by simp)]
/-- a good term's kind is its last operation's -/
theorem Q1f {wide vars : Int} {t : List DNode} (h : Q1 wide vars t ≠ 0) (hne : t ≠ []) : Q1b wide vars t [] = some [Q1 wide vars t] ∧ Q1 wide vars t = (need (t.getLast hne).1).2.2 := by
  unfold Q1 at h ⊢
  split at h
  · rename_i hc
    rw [if_pos hc]
    split at h
    · rename_i a ha
      obtain ⟨⟨r', e⟩, h0⟩ := Q5o wide vars t [] [a] ha hne
      have hr : r' = [] := by
        have := congrArg List.length e
        simp at this
        exact this
      subst hr
      rw [ha]
      exact ⟨rfl, by simpa using e⟩
    · exact absurd rfl h
  · exact absurd rfl h
theorem Qbs {wide vars : Int} {t : List DNode} (h : Q1 wide vars t ≠ 0) : Q1 wide vars t = 1 ∨ Q1 wide vars t = 2 := by
  have hne : t ≠ [] := by
    intro e
    subst e
    exact h (by simp [Q1])
  have := (Q1f h hne).2
  rw [this] at h ⊢
  rcases Q5q (t.getLast hne).1 with h1 | h1 | h1 | h1 | h1 | h1 | h1 | h1 <;> rw [h1] at h ⊢ <;> simp at h ⊢
theorem Q67 (b : Bool) (l : List Int) (a : Int) (hl : l.length ≤ 1000) : F6k (b, l) (a, ()) = some (l.any fun y => a != y) := by
  rw [F6kE, F2rE]
  exact Je (Ja l (fun y => a != y) (fun i => Fa2 (b, l) (a, ()) (l.length : Int) i) (fun i h => by
    rw [Fa2E, gT (by omega), gT (by omega), gT (by simp only; omega), J2 l _ i h, F5aE, J0, up1 i (by omega), J1]
    simp only [bne_comm]) (by rw [Fa2E, gF (by omega)]))
theorem Q8c (wide vars : Int) (t : Bool × List DNode) (ht : t.2.length ≤ 48) (hv : 0 ≤ vars ∧ vars ≤ 4) (d : Nat) : ∀ (i : Nat) (b : Bool) (st : List Int), i + d = t.2.length → st.length ≤ i →
    (Q1b wide vars (t.2.drop i) st = none ∧ F9t wide vars (b, st) t (t.2.length : Int) (i : Int) = some (.inl false)) ∨ ∃ b' s, Q1b wide vars (t.2.drop i) st = some s ∧ F9t wide vars (b, st) t (t.2.length : Int) (i : Int) = some (.inr (b', s)) := by
  induction d with
  | zero =>
    intro i b st hi hs
    rw [F9tE, gF (by omega), Ka (by omega)]
    exact .inr ⟨b, st, rfl, rfl⟩
  | succ d ih =>
    intro i b st hi hs
    have hlt : i < t.2.length := by omega
    obtain ⟨p1, p2, p3⟩ := Q4z t.2[i].1
    have hlim : lim = 1099511627776 := rfl
    rw [F9tE, gT (by omega), gT (by omega), gT (by omega), J2 t.2 _ i hlt, Q5r, J0, K3 hlt, Q8h wide vars _ hv, p1, p2]
    simp only [Q1b]
    obtain ⟨m, hm, hm2⟩ := Q3o t.2[i].1
    rw [hm]
    by_cases h0 : (need t.2[i].1).2.2 = 0
    · rw [bT (by simp [h0])]; exact .inl ⟨by simp [Q4g, h0], rfl⟩
    · rw [bF (by simp [h0]), J0]
      cases hl : Q1r wide vars t.2[i].1 t.2[i].2 with
      | false => exact .inl ⟨by simp [Q4g, hl, h0], rfl⟩
      | true =>
        rw [bF (by simp)]
        by_cases hn : (st.length : Int) < (m : Int)
        · rw [wr (by omega), gT (by omega)]
          exact .inl ⟨by simp [Q4g, hl, h0, hm, hn], rfl⟩
        · have e : IntKind.i64.wrap ((st.length : Int) - (m : Int)) = ((st.length - m : Nat) : Int) := by rw [wr (by omega)]; omega
          have ek : Q4g wide vars st t.2[i] = if (st.drop (st.length - m)).all (fun y => y == (need t.2[i].1).2.1) = true then some (st.take (st.length - m) ++ [(need t.2[i].1).2.2]) else none := by
            unfold Q4g
            rw [if_neg h0, if_pos hl, hm, if_neg hn, K7]
          have ea : (st.drop (st.length - m)).any (fun y => (Q8n t.2[i].1).2.1 != y) = !(st.drop (st.length - m)).all (fun y => y == (need t.2[i].1).2.1) := by
            rcases p3 with p3 | p3
            · have : m = 0 := by omega
              subst this
              simp
            · rw [p3, List.not_all_eq_any_not]
              congr 1
              funext y
              rw [bne, Bool.beq_comm]
          rw [e, gF (by omega), gT (by omega), gT (by omega), K7, List.take_length, Q67 b (st.drop (st.length - m)) _ (by simp; omega), J0, ea, ek]
          cases ha : (st.drop (st.length - m)).all (fun y => y == (need t.2[i].1).2.1) with
          | false => exact .inl ⟨rfl, rfl⟩
          | true =>
            rw [bF (by simp), gT (by omega), gT (by omega), gT (by simp; omega), up1 i (by omega), J1, if_pos rfl, Kg]
            simp only [J0]
            exact ih (i + 1) _ _ (by omega) (by simp; omega)
theorem Q7a (n : Int) : F4u n = some (decide (1 ≤ n ∧ n ≤ 4)) := by
  rw [F4uE]
  by_cases h : n ≥ 1
  · rw [gT h]; congr 1; apply decide_eq_decide.mpr; omega
  · rw [gF h]; congr 1; symm; apply decide_eq_false; omega
theorem Q6d (wide vars : Int) (t : Bool × List DNode) : Fs wide vars t = some (Q1 wide vars t.2 != 0) := by
  rw [FsE, Q4w, Q7a, J0, J0]
  by_cases h1 : 1 ≤ wide ∧ wide ≤ 64
  · by_cases h3 : 1 ≤ vars ∧ vars ≤ 4
    · by_cases h5 : (t.2.length : Int) < 1
      · rw [bF (by simp [h1]), bF (by simp [h3]), gT h5]
        unfold Q1; rw [if_neg (by omega)]; rfl
      · by_cases h6 : (t.2.length : Int) > 48
        · rw [bF (by simp [h1]), bF (by simp [h3]), gF h5, gT h6]
          unfold Q1; rw [if_neg (by omega)]; rfl
        · rw [bF (by simp [h1]), bF (by simp [h3]), gF h5, gF h6]
          have hc : 1 ≤ wide ∧ wide ≤ 64 ∧ 1 ≤ vars ∧ vars ≤ 4 ∧ 1 ≤ t.2.length ∧ t.2.length ≤ 48 := by omega
          have hne : t.2 ≠ [] := by intro h; rw [h] at h5; simp at h5
          rcases Q8c wide vars t (by omega) (by omega) t.2.length 0 false [] (by omega) (by simp) with ⟨k1, k2⟩ | ⟨b, s, k1, k2⟩
          · rw [show ((0 : Nat) : Int) = 0 from rfl] at k2
            rw [k2, J0]
            rw [Kg] at k1
            unfold Q1
            rw [if_pos hc, k1]
            rfl
          · rw [show ((0 : Nat) : Int) = 0 from rfl] at k2
            rw [k2, J0]
            rw [Kg] at k1
            obtain ⟨⟨r', e⟩, hne0⟩ := Q5o wide vars t.2 [] s k1 hne
            unfold Q1
            rw [if_pos hc, k1]
            match s, e with
            | [], e => rfl
            | [a], e =>
              have hr : r' = [] := by
                have := congrArg List.length e
                simp at this
                exact this
              subst hr
              simp at e
              rw [← e] at hne0
              simp [hne0]
            | a :: b :: c, e =>
              simp
              omega
    · rw [bF (by simp [h1]), bT (by simp; omega)]
      unfold Q1; rw [if_neg (by omega)]; rfl
  · rw [bT (by simp; omega)]
    unfold Q1; rw [if_neg (by omega)]; rfl
theorem Q6g (wide vars kd : Int) (t : Bool × List DNode) (h0 : kd ≠ 0) : F4c wide vars t kd = some (Q1 wide vars t.2 == kd) := by
  rw [F4cE, Q6d, J0]
  by_cases hz : Q1 wide vars t.2 = 0
  · rw [bF (by simp [hz]), hz]
    congr 1
    symm
    simp
    omega
  · have hne : t.2 ≠ [] := by
      intro h
      rw [h] at hz
      exact hz (by simp [Q1])
    have hin := Qx hz
    rw [bT (by simp [hz]), F60E, dn1 _ (by omega) (by omega), gT (by omega), gT (by omega), J2 _ _ _ (by omega), Q5r, J0, J0]
    rw [(Q4z _).2.1, (Q1f hz hne).2, List.getLast_eq_getElem]
/-- terms of words -/
def WfN (t : List DNode) : Prop := ∀ x ∈ t, U64 x.2
def WfCh (c : DChange) : Prop := WfN c.2.2
def WfCm (c : DCommand) : Prop := WfN c.1.2 ∧ ∀ d ∈ c.2.2, WfCh d
def WfP (p : DProgram) : Prop := WfN p.2.2.1.2 ∧ ∀ c ∈ p.2.2.2.2, WfCm c
theorem Q2j {a : Bool × List DNode} (w : WfD (.sl tyNode) a) : WfN a.2 := fun x hx => Jaa (w.2.2 x hx).2
theorem Qcz {p : DProgram} (w : WfD tyProgram p) : WfP p := by
  obtain ⟨_, _, h1, h2⟩ := w
  refine ⟨Q2j h1, fun c hc => ?_⟩
  obtain ⟨h3, h4⟩ := h2.2.2 c hc
  exact ⟨Q2j h3, fun d hd => Q2j (h4.2.2 d hd).2⟩
theorem Qfk {p : DProgram} (w : WfP p) : WfP (Q5 p) := by
  refine ⟨w.1, fun c hc => ?_⟩
  obtain ⟨c0, h1, rfl⟩ := Kt.1 hc
  obtain ⟨q1, q2⟩ := w.2 c0 h1
  refine ⟨q1, fun d hd => ?_⟩
  obtain ⟨d0, h2, rfl⟩ := Kt.1 hd
  exact q2 d0 h2
/-- Are changes right, the variable Q10 them being p? -/
def Q3f (wide vars : Int) : Int → List DChange → Bool
  | _, [] => true
  | p, c :: cs => decide (p < c.1) && decide (c.1 < vars) && (Q1 wide vars c.2.2 == 1) && Q3f wide vars c.1 cs
theorem Qb7 (wide vars : Int) : ∀ (l : List DChange) (p : Int), p < vars → Q3f wide vars p l = true → p + (l.length : Int) < vars := by
  intro l
  induction l with
  | nil => intro p h _; simpa using h
  | cons c cs ih =>
    intro p h hc
    simp only [Q3f, K5, decide_eq_true_eq] at hc
    have := ih c.1 hc.1.1.2 hc.2
    simp only [Ks]
    omega
def Q4p (wide vars : Int) (c : DCommand) : Bool := (Q1 wide vars c.1.2 == 2) && Q3f wide vars (-1) c.2.2
/-- The variable of the change Q10. -/
def Q10 (l : List DChange) (i : Nat) : Int := if i = 0 then -1 else (l.getD (i - 1) (0, (true, []))).1
theorem Q4o (l : List DChange) (i : Nat) (h : i < l.length) : Q10 l (i + 1) = l[i].1 := by
  simp [Q10, h]
theorem Q7f (p : DProgram) (c : DCommand) (hl : c.2.2.length ≤ 1048576) (hv : 1 ≤ p.2.1 ∧ p.2.1 ≤ 4) (hw : ∀ d ∈ c.2.2, WfCh d) (d : Nat) : ∀ (i : Nat), i + d = c.2.2.length → -1 ≤ Q10 c.2.2 i →
    F77 p c c.2 (c.2.2.length : Int) (i : Int) = some (bif Q3f p.1 p.2.1 (Q10 c.2.2 i) (c.2.2.drop i) then .inr () else .inl false) := by
  induction d with
  | zero =>
    intro i hi hb0
    rw [F77E, gF (by omega), Ka (by omega)]
    rfl
  | succ d ih =>
    intro i hi hb0
    have hlt : i < c.2.2.length := by omega
    have hx := hw _ (K4 hlt)
    have go := ih (i + 1) (by omega)
    rw [Q4o _ i hlt] at go
    rw [K3 hlt, F77E, gT (by omega), gT (by omega), gT (by omega), J2 _ _ i hlt, Q2n, J0, wr (by omega), up1 i (by omega), J1, Q9k p.1 p.2.1 _ hx, J0]
    simp only [Q3f]
    by_cases h1 : 0 ≤ c.2.2[i].1 ∧ c.2.2[i].1 ≤ p.2.1 - 1
    · rw [bF (by simp [h1]), go (by omega)]
      have h3 : decide (c.2.2[i].1 < p.2.1) = true := by simp; omega
      rw [h3]
      by_cases hi0 : i = 0
      · subst hi0
        have hb : decide (Q10 c.2.2 0 < c.2.2[0].1) = true := by simp [Q10]; omega
        rw [gF (by omega), hb]
        by_cases hk1 : Q1 p.1 p.2.1 c.2.2[0].2.2 = 1
        · rw [bF (by simp [hk1])]; simp [hk1]
        · rw [bT (by simp [hk1])]; simp [beqF hk1]
      · have hb : Q10 c.2.2 i = c.2.2[i - 1].1 := by
          simp only [Q10, if_neg hi0]
          rw [K1]
          simp [show i - 1 < c.2.2.length by omega]
        rw [gT (by omega), dn1 i (by omega) (by omega), gT (by omega), gT (by omega), J2 _ _ (i - 1) (by omega), hb]
        by_cases h4 : c.2.2[i - 1].1 ≥ c.2.2[i].1
        · have : decide (c.2.2[i - 1].1 < c.2.2[i].1) = false := by simp; omega
          rw [gT h4, this]; rfl
        · have : decide (c.2.2[i - 1].1 < c.2.2[i].1) = true := by simp; omega
          rw [gF h4, this]
          by_cases hk1 : Q1 p.1 p.2.1 c.2.2[i].2.2 = 1
          · rw [bF (by simp [hk1])]; simp [hk1]
          · rw [bT (by simp [hk1])]; simp [beqF hk1]
    · rw [bT (by simp; omega)]
      have : (decide (Q10 c.2.2 i < c.2.2[i].1) && decide (c.2.2[i].1 < p.2.1)) = false := by
        rw [← Bool.not_eq_true]
        simp
        omega
      rw [this]; rfl
theorem Q9m (p : DProgram) (t : Bool × List DNode) (h : WfN t.2) : F4d p t = some (Q1 p.1 p.2.1 t.2 == 2) := by
  rw [F4dE, Q9k p.1 p.2.1 t h, J0]
theorem Q2c (p : DProgram) (t : Bool × List DNode) : F49 p t = some (Q1 p.1 p.2.1 t.2 == 2) := by
  rw [F49E, Q6g _ _ _ _ (by omega), J1]
theorem Qc0 (p : DProgram) (c : DCommand) (hl : c.2.2.length ≤ 1048576) (h : WfCm c) : F2b p c = some (Q4p p.1 p.2.1 c) := by
  rw [F2bE, Q9m p _ h.1, J0]
  unfold Q4p
  by_cases h2 : Q1 p.1 p.2.1 c.1.2 = 2
  · have hv := Qx (by rw [h2]; omega : Q1 p.1 p.2.1 c.1.2 ≠ 0)
    rw [bF (by simp [h2]), h2]
    by_cases hn : (c.2.2.length : Int) > p.2.1
    · have : Q3f p.1 p.2.1 (-1) c.2.2 = false := by
        cases hc : Q3f p.1 p.2.1 (-1) c.2.2 with
        | false => rfl
        | true =>
          have := Qb7 p.1 p.2.1 c.2.2 (-1) (by omega) hc
          omega
      rw [gT hn, this]; rfl
    · have := Q7f p c hl (by omega) h.2 c.2.2.length 0 (by omega) (by simp [Q10])
      rw [show ((0 : Nat) : Int) = 0 from rfl, Kg] at this
      rw [gF hn, this, J0]
      simp only [Q10, if_true]
      cases Q3f p.1 p.2.1 (-1) c.2.2 <;> rfl
  · rw [bT (by simp [h2]), beqF h2]; rfl
theorem Q79 (p : DProgram) (c : DCommand) (hl : c.2.2.length ≤ 1048576) (d : Nat) : ∀ (i : Nat), i + d = c.2.2.length → -1 ≤ Q10 c.2.2 i →
    F6j p c c.2 (c.2.2.length : Int) (i : Int) = some (bif Q3f p.1 p.2.1 (Q10 c.2.2 i) (c.2.2.drop i) then .inr () else .inl false) := by
  induction d with
  | zero =>
    intro i hi hb0
    rw [F6jE, gF (by omega), Ka (by omega)]
    rfl
  | succ d ih =>
    intro i hi hb0
    have hlt : i < c.2.2.length := by omega
    have go := ih (i + 1) (by omega)
    rw [Q4o _ i hlt] at go
    rw [K3 hlt, F6jE, gT (by omega), gT (by omega), gT (by omega), J2 _ _ i hlt, up1 i (by omega), J1, Q6g _ _ _ _ (by omega), J0]
    simp only [Q3f]
    by_cases h1 : c.2.2[i].1 < 0
    · have : decide (Q10 c.2.2 i < c.2.2[i].1) = false := by simp; omega
      rw [gT h1, this]; rfl
    · rw [gF h1, go (by omega)]
      by_cases h2 : c.2.2[i].1 ≥ p.2.1
      · have : decide (c.2.2[i].1 < p.2.1) = false := by simp; omega
        rw [gT h2, this, K1r]; rfl
      · have h3 : decide (c.2.2[i].1 < p.2.1) = true := by simp; omega
        rw [gF h2, h3]
        by_cases hi0 : i = 0
        · subst hi0
          have hb : decide (Q10 c.2.2 0 < c.2.2[0].1) = true := by simp [Q10]; omega
          rw [gF (by omega), hb]
          by_cases hk1 : Q1 p.1 p.2.1 c.2.2[0].2.2 = 1
          · rw [bF (by simp [hk1])]; simp [hk1]
          · rw [bT (by simp [hk1])]; simp [beqF hk1]
        · have hb : Q10 c.2.2 i = c.2.2[i - 1].1 := by
            simp only [Q10, if_neg hi0]
            rw [K1]
            simp [show i - 1 < c.2.2.length by omega]
          rw [gT (by omega), dn1 i (by omega) (by omega), gT (by omega), gT (by omega), J2 _ _ (i - 1) (by omega), hb]
          by_cases h4 : c.2.2[i - 1].1 ≥ c.2.2[i].1
          · have : decide (c.2.2[i - 1].1 < c.2.2[i].1) = false := by simp; omega
            rw [gT h4, this]; rfl
          · have : decide (c.2.2[i - 1].1 < c.2.2[i].1) = true := by simp; omega
            rw [gF h4, this]
            by_cases hk1 : Q1 p.1 p.2.1 c.2.2[i].2.2 = 1
            · rw [bF (by simp [hk1])]; simp [hk1]
            · rw [bT (by simp [hk1])]; simp [beqF hk1]
theorem Qbr (p : DProgram) (c : DCommand) (hl : c.2.2.length ≤ 1048576) : F28 p c = some (Q4p p.1 p.2.1 c) := by
  rw [F28E, Q2c, J0]
  unfold Q4p
  by_cases h2 : Q1 p.1 p.2.1 c.1.2 = 2
  · rw [bF (by simp [h2]), h2]
    have := Q79 p c hl c.2.2.length 0 (by omega) (by simp [Q10])
    rw [show ((0 : Nat) : Int) = 0 from rfl, Kg] at this
    rw [this, J0]
    simp only [Q10, if_true]
    cases Q3f p.1 p.2.1 (-1) c.2.2 <;> rfl
  · rw [bT (by simp [h2]), beqF h2]; rfl
def Q4 (p : DProgram) : Bool := (Q1 p.1 p.2.1 p.2.2.1.2 == 2) && (decide (1 ≤ p.2.2.2.2.length ∧ p.2.2.2.2.length ≤ 6) && p.2.2.2.2.all fun c => Q4p p.1 p.2.1 c)
theorem Q11 {p : DProgram} (h : Q4 p = true) : 1 ≤ p.1 ∧ p.1 ≤ 64 ∧ 1 ≤ p.2.1 ∧ p.2.1 ≤ 4 := by
  simp only [Q4, K5, beq_iff_eq] at h
  have := Qx (t := p.2.2.1.2) (by rw [h.1]; decide)
  omega
theorem Q4h (p : DProgram) (hs : Qa p) (hw : WfP p) : F2o p = some (Q4 p) := by
  obtain ⟨_, s2, s3⟩ := hs
  have := J4c p.2.2.2.2 (fun c => Q4p p.1 p.2.1 c) (.inr () : Bool ⊕ Unit) (.inl false) (fun i => F7m p p.2.2.2 (p.2.2.2.2.length : Int) i) (fun i h => by
    rw [F7mE, gT (by omega), gT (by omega), gT (by omega), J2 _ _ i h, Qc0 p _ (s3 _ (K4 h)).2.1 (hw.2 _ (K4 h)), J0, up1 i (by omega), J1]
    cases Q4p p.1 p.2.1 p.2.2.2.2[i] <;> rfl) (by
    rw [F7mE, gF (by omega)])
  rw [F2oE, Q9m p _ hw.1, J0, Q2n, J0, this]
  unfold Q4
  by_cases h2 : Q1 p.1 p.2.1 p.2.2.1.2 = 2
  · by_cases h5 : 1 ≤ p.2.2.2.2.length ∧ p.2.2.2.2.length ≤ 6
    · rw [bF (by simp [h2]), bF (by simp; omega), h2]
      simp only [h5, and_self, decide_true, J0]
      cases p.2.2.2.2.all fun c => Q4p p.1 p.2.1 c <;> rfl
    · rw [bF (by simp [h2]), bT (by simp; omega)]
      simp [h5]
  · rw [bT (by simp [h2]), beqF h2]; rfl
theorem Q4e (p : DProgram) (hs : Qa p) : F6x p.2.2.2 (p, ()) = some (p.2.2.2.2.any fun c => !Q4p p.1 p.2.1 c) := by
  obtain ⟨_, s2, s3⟩ := hs
  rw [F6xE, F2mE]
  exact Je (Ja p.2.2.2.2 (fun c => !Q4p p.1 p.2.1 c) (fun i => F8h p.2.2.2 (p, ()) (p.2.2.2.2.length : Int) i) (fun i h => by
    rw [F8hE, gT (by omega), gT (by omega), gT (by omega), J2 _ _ i h, F5sE, Qbr p _ (s3 _ (K4 h)).2.1, J0, J0, up1 i (by omega), J1]) (by rw [F8hE, gF (by omega)]))
theorem Q4f (p : DProgram) (hs : Qa p) : F41 p = some (Q4 p) := by
  rw [F41E, Q4w, J0, Q7a, J0, Q2c, J0, Q4e p hs, J0]
  unfold Q4
  by_cases h2 : Q1 p.1 p.2.1 p.2.2.1.2 = 2
  · have hin := Qx (t := p.2.2.1.2) (by rw [h2]; decide)
    rw [bF (by simp; omega), bF (by simp; omega), bF (by simp [h2]), h2]
    by_cases h3 : (p.2.2.2.2.length : Int) < 1
    · have h5 : ¬ (1 ≤ p.2.2.2.2.length ∧ p.2.2.2.2.length ≤ 6) := by omega
      rw [gT h3]
      simp [h5]
    · by_cases h4 : (p.2.2.2.2.length : Int) > 6
      · have h5 : ¬ (1 ≤ p.2.2.2.2.length ∧ p.2.2.2.2.length ≤ 6) := by omega
        rw [gF h3, gT h4]
        simp [h5]
      · have h5 : 1 ≤ p.2.2.2.2.length ∧ p.2.2.2.2.length ≤ 6 := by omega
        rw [gF h3, gF h4]
        simp [h5, List.not_any_eq_all_not]
  · rw [beqF h2]
    by_cases a1 : 1 ≤ p.1 ∧ p.1 ≤ 64
    · by_cases a2 : 1 ≤ p.2.1 ∧ p.2.1 ≤ 4
      · rw [bF (by simp; omega), bF (by simp; omega), bT (by simp)]; rfl
      · rw [bF (by simp; omega), bT (by simp; omega)]; rfl
    · rw [bT (by simp; omega)]; rfl
theorem Qd4 (wide vars : Int) : ∀ (l : List DChange) (p : Int), Q3f wide vars p l = true → ∀ d ∈ l, p < d.1 ∧ d.1 < vars ∧ Q1 wide vars d.2.2 = 1 := by
  intro l
  induction l with
  | nil => intro p _ d hd; simp at hd
  | cons c cs ih =>
    intro p h d hd
    simp only [Q3f, K5, decide_eq_true_eq, beq_iff_eq] at h
    rcases Kd.1 hd with rfl | hd
    · exact ⟨h.1.1.1, h.1.1.2, h.1.2⟩
    · have := ih c.1 h.2 d hd
      exact ⟨by omega, this.2⟩
theorem Q3g {p : DProgram} (h : Q4 p = true) : ∀ c ∈ p.2.2.2.2, Q1 p.1 p.2.1 c.1.2 = 2 ∧ ∀ d ∈ c.2.2, 0 ≤ d.1 ∧ d.1 < p.2.1 ∧ Q1 p.1 p.2.1 d.2.2 = 1 := by
  intro c hc
  simp only [Q4, K5] at h
  have := (K10.1 h.2.2) c hc
  simp only [Q4p, K5, beq_iff_eq] at this
  refine ⟨this.1, fun d hd => ?_⟩
  have := Qd4 _ _ _ _ this.2 d hd
  exact ⟨by omega, this.2⟩
theorem Q6h {wide vars : Int} {t : List DNode} (h : (Q1 wide vars t == 2) = true) : Q1 wide vars t ≠ 0 := by
  rw [beq_iff_eq] at h
  omega
def Qp (p : DProgram) : Bool := Q4 p && decide (p.1 * p.2.1 ≤ 5)
theorem Qca {a b : Int} (ha : 1 ≤ a ∧ a ≤ 64) (hb : 1 ≤ b ∧ b ≤ 4) : 1 ≤ a * b ∧ a * b ≤ 256 := by
  have h1 : 1 * 1 ≤ a * b := Int.mul_le_mul ha.1 hb.1 (by omega) (by omega)
  have h2 : a * b ≤ 64 * 4 := Int.mul_le_mul ha.2 hb.2 (by omega) (by omega)
  omega
theorem Qe4 (p : DProgram) (hs : Qa p) (hw : WfP p) : F74 p = some (Qp p) := by
  rw [F74E, Q4h p hs hw, J0]
  unfold Qp
  cases h : Q4 p with
  | false => rfl
  | true =>
    obtain ⟨a1, a2, a3, a4⟩ := Q11 h
    have := Qca ⟨a1, a2⟩ ⟨a3, a4⟩
    rw [wr (by omega)]
    rfl
theorem Q45 (p : DProgram) (hs : Qa p) : F4m p = some (Qp p) := by
  rw [F4mE, Q4f p hs, J0]
  unfold Qp
  cases h : Q4 p with
  | false => rfl
  | true =>
    obtain ⟨a1, a2, a3, a4⟩ := Q11 h
    have := Qca ⟨a1, a2⟩ ⟨a3, a4⟩
    rw [wr (by omega)]
    rfl
/-- what is known of a small program -/
theorem Q40 {p : DProgram} (h : Qp p = true) : Q4 p = true ∧ 1 ≤ p.1 ∧ p.1 ≤ 5 ∧ 1 ≤ p.2.1 ∧ p.2.1 ≤ 4 ∧ p.1 * p.2.1 ≤ 5 ∧ 1 ≤ p.1 * p.2.1 := by
  simp only [Qp, K5, decide_eq_true_eq] at h
  obtain ⟨a1, a2, a3, a4⟩ := Q11 h.1
  have h1 := Qca ⟨a1, a2⟩ ⟨a3, a4⟩
  have h2 : p.1 * 1 ≤ p.1 * p.2.1 := Int.mul_le_mul_of_nonneg_left a3 (by omega)
  exact ⟨h.1, a1, by omega, a3, a4, h.2, h1.1⟩
theorem Q26 (k : IntKind) (x : Int) (n : Nat) (h : n ≤ k.bits) : bShr k x (n : Int) = x / 2 ^ n := by
  unfold bShr
  rw [show min ((n : Int)).toNat k.bits = n by simp only [K7]; omega, Int.fdiv_eq_ediv_of_nonneg _ (Int.le_of_lt (Int.pow_pos (by decide)))]
theorem Q93 (a : Nat) (h : a < 2 ^ 64) : bXor .u64 18446744073709551615 (a : Int) = ((18446744073709551615 - a : Nat) : Int) := by
  have e : (BitVec.ofInt 64 18446744073709551615 ^^^ BitVec.ofInt 64 (a : Int)).toNat = 18446744073709551615 - a := by
    rw [show BitVec.ofInt 64 18446744073709551615 = BitVec.allOnes 64 by decide, BitVec.allOnes_xor, BitVec.toNat_not, BitVec.ofInt_natCast, BitVec.toNat_ofNat, K1w h]
  show IntKind.u64.wrap (((BitVec.ofInt 64 18446744073709551615 ^^^ BitVec.ofInt 64 (a : Int)).toNat : Nat) : Int) = _
  rw [e]
  exact wru ⟨by omega, by omega⟩
theorem Q3y {wide a : Int} (hw : 1 ≤ wide ∧ wide ≤ 64) (ha : U64 a) : Fv wide a = some (a % (top wide + 1)) := by
  obtain ⟨n, rfl⟩ := Kf (show 0 ≤ wide by omega)
  obtain ⟨m, rfl⟩ := Kf ha.1
  have hm : m < 2 ^ 64 := by have := ha.2; simp; omega
  have e : ((2 : Int) ^ n) = ((2 ^ n : Nat) : Int) := by simp
  rw [Qbf n m (by omega) hm, show min n 64 = n by omega]
  simp only [top, K7, e]
  rw [show ((2 ^ n : Nat) : Int) - 1 + 1 = ((2 ^ n : Nat) : Int) by omega]
  rfl
theorem Q1c {wide a : Int} (hw : 1 ≤ wide ∧ wide ≤ 64) (ha : U64 a) : bAnd .u64 a (top wide) = a % (top wide + 1) := by
  obtain ⟨n, rfl⟩ := Kf (show 0 ≤ wide by omega)
  obtain ⟨m, rfl⟩ := Kf ha.1
  have e : ((2 : Int) ^ n) = ((2 ^ n : Nat) : Int) := by simp
  have hm : m < 2 ^ 64 := by have := ha.2; simp; omega
  have hp := J4e (n := n) (by omega)
  have h0 : 0 < (2 : Nat) ^ n := Nat.two_pow_pos _
  have e2 : top ((n : Nat) : Int) = ((2 ^ n - 1 : Nat) : Int) := by
    simp only [top, K7, e]
    omega
  have e3 : top ((n : Nat) : Int) + 1 = ((2 ^ n : Nat) : Int) := by rw [e2]; omega
  rw [e3, e2, J8c m (2 ^ n - 1) hm (by simp; omega), Nat.and_two_pow_sub_one_eq_mod]
  rfl
/-- The cut of a complement. -/
theorem Q86 {wide a : Int} (hw : 1 ≤ wide ∧ wide ≤ 64) (h0 : 0 ≤ a) (h1 : a ≤ top wide) : U64 (bXor .u64 18446744073709551615 a) ∧ bXor .u64 18446744073709551615 a % (top wide + 1) = top wide - a := by
  obtain ⟨n, rfl⟩ := Kf (show 0 ≤ wide by omega)
  obtain ⟨m, rfl⟩ := Kf h0
  have e : ((2 : Int) ^ n) = ((2 ^ n : Nat) : Int) := by simp
  simp only [top, K7, e] at h1 ⊢
  have h2 := J4e (n := n) (by omega)
  have hm : m < 2 ^ 64 := by simp; omega
  rw [Q93 m hm]
  refine ⟨⟨by omega, by omega⟩, ?_⟩
  have hp : (2 : Nat) ^ n * 2 ^ (64 - n) = 18446744073709551616 := by rw [← Nat.pow_add, show n + (64 - n) = 64 by omega]
  have hq : 0 < (2 : Nat) ^ (64 - n) := Nat.two_pow_pos _
  have h3 : 18446744073709551615 - m = (2 ^ n - 1 - m) + 2 ^ n * (2 ^ (64 - n) - 1) := by
    rw [Nat.mul_sub, hp, Nat.mul_one]
    omega
  rw [h3, show ((2 ^ n : Nat) : Int) - 1 + 1 = ((2 ^ n : Nat) : Int) by omega, ← Int.natCast_emod, Nat.add_mul_mod_self_left, K1w (by omega)]
  omega
theorem Qbd {wide : Int} (hw : 1 ≤ wide ∧ wide ≤ 64) : Fv wide 18446744073709551615 = some (top wide) := by
  have ht := Q4d hw
  have h := (Q86 hw (Int.le_refl 0) (by omega)).2
  rw [show (0 : Int) = ((0 : Nat) : Int) from rfl, Q93 0 (by decide)] at h
  rw [Q3y hw ⟨by omega, by omega⟩]
  congr 1
  simpa using h
/-- Words of a width. -/
def W5 (wide a : Int) : Prop := 0 ≤ a ∧ a ≤ top wide
theorem Q81 {wide a b : Int} (hw : 1 ≤ wide ∧ wide ≤ 64) (ha : W5 wide a) (hb : W5 wide b) :
    W5 wide (bAnd .u64 a b) ∧ W5 wide (bOr .u64 a b) ∧ W5 wide (bXor .u64 a b) := by
  obtain ⟨n, rfl⟩ := Kf (show 0 ≤ wide by omega)
  obtain ⟨ha0, ha1⟩ := ha
  obtain ⟨hb0, hb1⟩ := hb
  obtain ⟨x, rfl⟩ := Kf ha0
  obtain ⟨y, rfl⟩ := Kf hb0
  have e : ((2 : Int) ^ n) = ((2 ^ n : Nat) : Int) := by simp
  have hp := J4e (n := n) (by omega)
  simp only [top, K7, e] at ha1 hb1
  have h0 : 0 < (2 : Nat) ^ n := Nat.two_pow_pos _
  have hx : x < 2 ^ n := by omega
  have hy : y < 2 ^ n := by omega
  have h64 : (2 : Nat) ^ n ≤ 2 ^ 64 := Nat.pow_le_pow_right (by decide) (by omega)
  have f1 := Nat.and_lt_two_pow x hy
  have f2 := Nat.or_lt_two_pow hx hy
  have f3 := Nat.xor_lt_two_pow hx hy
  rw [J8c x y (Kz hx h64) (Kz hy h64), J91 x y (Kz hx h64) (Kz hy h64), Jg9 x y (Kz hx h64) (Kz hy h64)]
  simp only [W5, top, K7, e]
  omega
theorem Q46 {n : Nat} : top (n : Int) + 1 = ((2 ^ n : Nat) : Int) := by
  have e : ((2 : Int) ^ n) = ((2 ^ n : Nat) : Int) := by simp
  simp only [top, K7, e]
  omega
theorem W5.u64 {wide a : Int} (hw : 1 ≤ wide ∧ wide ≤ 64) (h : W5 wide a) : U64 a := ⟨h.1, by have := h.2; have := Q4d hw; omega⟩
theorem Q12 {wide a : Int} (hw : 1 ≤ wide ∧ wide ≤ 64) (h : W5 wide a) : bAnd .u64 a (top wide) = a := by
  rw [Q1c hw (h.u64 hw), Int.emod_eq_of_lt h.1 (by have := h.2; omega)]
theorem Q3w {wide a : Int} (hw : 1 ≤ wide ∧ wide ≤ 64) (h : W5 wide a) : Q2v wide a = true := by
  rw [Q14]
  exact ⟨hw.1, hw.2, h.2⟩
theorem Q3m {wide q : Int} (hw : 1 ≤ wide ∧ wide ≤ 64) : W5 wide (q % (top wide + 1)) := by
  have ht := Q4d hw
  exact ⟨Int.emod_nonneg _ (by omega), by have := Int.emod_lt_of_pos q (show 0 < top wide + 1 by omega); omega⟩
theorem Q92 (n : Int) : U64 (IntKind.u64.wrap n) := by
  rw [J73]
  exact ⟨Int.emod_nonneg _ (by decide), Int.emod_lt_of_pos _ (by decide)⟩
theorem Q6l (wide : Int) (n : Nat) : ∀ (x : Int), n < 1000 → F6r wide x (n : Int) false = some (x / 2 ^ n) := by
  induction n with
  | zero =>
    intro x _
    rw [F6rE, gF (by omega)]
    simp
  | succ n ih =>
    intro x h
    rw [F6rE, gT (by omega), cond_false, wru (by omega), show ((n + 1 : Nat) : Int) - 1 = (n : Int) by omega, show (1 : Int) = ((1 : Nat) : Int) from rfl, Q26 .u64 x 1 (by decide), ih _ (by omega), J0]
    congr 1
    rw [Int.ediv_ediv_of_nonneg (by decide), Int.pow_succ, Int.mul_comm]
    rfl
theorem Q7d (wide : Int) (hw : 1 ≤ wide ∧ wide ≤ 63) (n : Nat) : ∀ (x : Int), n < 1000 → 0 ≤ x → x ≤ top wide → F6r wide x (n : Int) true = some (x * 2 ^ n % (top wide + 1)) := by
  obtain ⟨w, rfl⟩ := Kf (show 0 ≤ wide by omega)
  have hM := Q46 (n := w)
  have hlt : (2 : Nat) ^ w ≤ 2 ^ 63 := Nat.pow_le_pow_right (by decide) (by omega)
  have hpos : 0 < (2 : Nat) ^ w := Nat.two_pow_pos _
  simp at hlt
  induction n with
  | zero =>
    intro x _ h0 h1
    rw [F6rE, gF (by omega), show x * 2 ^ 0 = x by simp, Int.emod_eq_of_lt h0 (by omega)]
  | succ n ih =>
    intro x h h0 h1
    have e : bShl .u64 x 1 = x * 2 := by
      unfold bShl
      rw [show min (Int.toNat 1) IntKind.u64.bits = 1 by decide, wru (by omega)]
      omega
    rw [F6rE, gT (by omega), cond_true, e, Q3y (by omega) ⟨by omega, by omega⟩, J0]
    have hm := Int.emod_nonneg (x * 2) (show top (w : Int) + 1 ≠ 0 by omega)
    have hm2 := Int.emod_lt_of_pos (x * 2) (show 0 < top (w : Int) + 1 by omega)
    rw [wru (by omega), show ((n + 1 : Nat) : Int) - 1 = (n : Int) by omega, ih _ (by omega) hm (by omega), J0]
    congr 1
    rw [Int.mul_emod, Int.emod_emod_of_dvd _ (Int.dvd_refl _), ← Int.mul_emod, Int.pow_succ, Int.mul_assoc, Int.mul_comm 2]
theorem Q5u (wide : Int) (hw : 1 ≤ wide ∧ wide ≤ 63) (a b : Int) (ha : W5 wide a) (hb : U64 b) (left : Bool) : ∃ r, W5 wide r ∧ Ft wide a b left = some r ∧ ∃ q, F3y wide a b left = some q ∧ U64 q ∧ bAnd .u64 q (top wide) = r := by
  obtain ⟨a0, a1⟩ := ha
  obtain ⟨b0, b1⟩ := hb
  have ht := Q4d (wide := wide) (by omega)
  have hz : bAnd .u64 0 (top wide) = 0 := by rw [Q1c (by omega) ⟨by omega, by omega⟩]; simp
  rw [FtE, F3yE, wru (by omega)]
  by_cases hge : b ≥ wide
  · exact ⟨0, ⟨by omega, by omega⟩, by rw [gT hge], 0, by rw [gT hge], ⟨by omega, by omega⟩, hz⟩
  · rw [gF hge, gF hge, gF (by omega), gF (by omega), J1]
    obtain ⟨n, rfl⟩ := Kf b0
    obtain ⟨w, rfl⟩ := Kf (show 0 ≤ wide by omega)
    have hM := Q46 (n := w)
    have hpos : 0 < (2 : Nat) ^ w := Nat.two_pow_pos _
    have hn64 : min ((n : Int)).toNat (IntKind.u64.bits) = n := by simp only [K7, IntKind.bits]; omega
    cases left with
    | true =>
      have hm := Int.emod_nonneg (a * 2 ^ n) (show top (w : Int) + 1 ≠ 0 by omega)
      have hm2 := Int.emod_lt_of_pos (a * 2 ^ n) (show 0 < top (w : Int) + 1 by omega)
      have hq : U64 (bShl .u64 a (n : Int)) := by
        unfold bShl
        exact Q92 _
      have e1 := Q1c (wide := (w : Int)) (by omega) hq
      have e2 : bShl .u64 a (n : Int) % (top (w : Int) + 1) = a * 2 ^ n % (top (w : Int) + 1) := by
        unfold bShl
        rw [hn64, J73, hM]
        have : (18446744073709551616 : Int) = ((2 ^ w : Nat) : Int) * ((2 ^ (64 - w) : Nat) : Int) := by
          rw [← Int.natCast_mul, ← Nat.pow_add, show w + (64 - w) = 64 by omega]
          decide
        rw [this, Int.emod_emod_of_dvd _ (Int.dvd_mul_right _ _)]
      refine ⟨a * 2 ^ n % (top (w : Int) + 1), ⟨hm, by omega⟩, Q7d (w : Int) (by omega) n a (by omega) a0 a1, bAnd .u64 (bShl .u64 a (n : Int)) (top (w : Int)), ?_, ?_, ?_⟩
      · rw [cond_true, Q2w (w : Int) (by omega), J0]
      · rw [e1, e2]
        exact ⟨hm, by omega⟩
      · rw [e1, e2, Q1c (by omega) ⟨hm, by omega⟩, Int.emod_emod_of_dvd _ (Int.dvd_refl _)]
    | false =>
      have hp : (0 : Int) < 2 ^ n := Int.pow_pos (by decide)
      have h1 : 0 ≤ a / 2 ^ n := Int.ediv_nonneg a0 (by omega)
      have h2 : a / 2 ^ n ≤ a := Int.ediv_le_self _ a0
      refine ⟨a / 2 ^ n, ⟨h1, by omega⟩, Q6l (w : Int) n a (by omega), a / 2 ^ n, ?_, ⟨h1, by omega⟩, ?_⟩
      · rw [cond_false, Q26 .u64 a n (by simp only [IntKind.bits]; omega)]
      · rw [Q1c (by omega) ⟨h1, by omega⟩, Int.emod_eq_of_lt h1 (by omega)]
theorem Q57 : top 1 = 1 := by decide
theorem Qch (a b : Int) (ha : U64 a) (hb : U64 b) : bOr .u64 a b = bOr .u64 b a := by
  obtain ⟨x, rfl⟩ := Kf ha.1
  obtain ⟨y, rfl⟩ := Kf hb.1
  have hx : x < 2 ^ 64 := by have := ha.2; simp; omega
  have hy : y < 2 ^ 64 := by have := hb.2; simp; omega
  rw [J91 x y hx hy, J91 y x hy hx, Nat.or_comm]
theorem Qep (n : Int) : IntKind.i64.wrap n = (n + 9223372036854775808) % 18446744073709551616 - 9223372036854775808 := by
  simp [IntKind.wrap, IntKind.bits, IntKind.signed]
  split <;> omega
/-- The whole number that a word of two's complement stands for. -/
def sgn (wide a : Int) : Int := if 2 * a < top wide + 1 then a else a - (top wide + 1)
theorem Q9j (wide a : Int) (hw : 1 ≤ wide ∧ wide ≤ 62) (ha : W5 wide a) : F40 wide a = some (sgn wide a) := by
  obtain ⟨a0, a1⟩ := ha
  obtain ⟨w, rfl⟩ := Kf (show 0 ≤ wide by omega)
  obtain ⟨v, rfl⟩ : ∃ v, w = v + 1 := ⟨w - 1, by omega⟩
  have hM := Q46 (n := v + 1)
  have hlt : (2 : Nat) ^ (v + 1) ≤ 2 ^ 62 := Nat.pow_le_pow_right (by decide) (by omega)
  have hpos : 0 < (2 : Nat) ^ v := Nat.two_pow_pos _
  have h2 : (2 : Nat) ^ (v + 1) = 2 * 2 ^ v := by rw [Nat.pow_succ]; omega
  simp at hlt
  have e0 : IntKind.u64.wrap (IntKind.i64.wrap (((v + 1 : Nat) : Int) - 1)) = (v : Int) := by
    rw [wr (by omega), show ((v + 1 : Nat) : Int) - 1 = (v : Int) by omega, wru (by omega)]
  have e1 : bShr .u64 a (v : Int) = a / 2 ^ v := Q26 .u64 a v (by simp only [IntKind.bits]; omega)
  have hp : ((2 : Int) ^ v) = ((2 ^ v : Nat) : Int) := by simp
  have hd0 : 0 ≤ a / 2 ^ v := Int.ediv_nonneg a0 (by omega)
  have hd1 : a / 2 ^ v ≤ a := Int.ediv_le_self _ a0
  have e2 : bAnd .u64 (a / 2 ^ v) 1 = a / 2 ^ v % 2 := by
    have := Q1c (wide := 1) (by omega) (a := a / 2 ^ v) ⟨hd0, by omega⟩
    rw [Q57] at this
    exact this
  rw [F40E, e0, gF (by omega), e1, e2, Qbd (by omega), J0]
  have hlt2 : a / 2 ^ v < 2 := Int.ediv_lt_of_lt_mul (by omega) (by omega)
  simp only [sgn]
  by_cases hb : 2 * a < top ((v + 1 : Nat) : Int) + 1
  · have h3 : a / 2 ^ v = 0 := Int.ediv_eq_zero_of_lt a0 (by omega)
    rw [h3, bF (by decide), if_pos hb, wr (by omega)]
  · have h3 : a / 2 ^ v = 1 := by
      have : 1 ≤ a / 2 ^ v := (Int.le_ediv_iff_mul_le (by omega)).2 (by omega)
      omega
    rw [h3, bT (by decide), if_neg hb]
    have hx := Q93 (2 ^ (v + 1) - 1) (by simp; omega)
    have ht : top ((v + 1 : Nat) : Int) = ((2 ^ (v + 1) - 1 : Nat) : Int) := by omega
    rw [ht, hx]
    have hmod : ((18446744073709551615 - (2 ^ (v + 1) - 1) : Nat) : Int) % 2 ^ (v + 1) = 0 := by
      have e5 : 18446744073709551615 - (2 ^ (v + 1) - 1) = 2 ^ (v + 1) * (2 ^ (64 - (v + 1)) - 1) := by
        rw [Nat.mul_sub, ← Nat.pow_add, show v + 1 + (64 - (v + 1)) = 64 by omega]
        omega
      rw [e5, Int.natCast_mul]
      have : ((2 : Int) ^ (v + 1)) = ((2 ^ (v + 1) : Nat) : Int) := by simp
      rw [this, Int.mul_emod_right]
    have hj : bOr .u64 ((18446744073709551615 - (2 ^ (v + 1) - 1) : Nat) : Int) a = ((18446744073709551615 - (2 ^ (v + 1) - 1) : Nat) : Int) + a :=
      bits_join .u64 64 (by decide) (fun n h0 h1 => wru ⟨h0, by simpa using h1⟩) (v + 1) ((18446744073709551615 - (2 ^ (v + 1) - 1) : Nat) : Int) a (by omega) hmod (by simp; omega) a0 (by
        have : ((2 : Int) ^ (v + 1)) = ((2 ^ (v + 1) : Nat) : Int) := by simp
        omega) (by simp; omega)
    rw [Qch a _ ⟨a0, by omega⟩ ⟨by omega, by omega⟩, hj]
    congr 1
    rw [Qep]
    omega
theorem signed (wide a : Int) (hw : 1 ≤ wide ∧ wide ≤ 62) (ha : W5 wide a) : F10 wide a = some (sgn wide a) := by
  obtain ⟨a0, a1⟩ := ha
  obtain ⟨w, rfl⟩ := Kf (show 0 ≤ wide by omega)
  have hM := Q46 (n := w)
  have hpos : 0 < (2 : Nat) ^ w := Nat.two_pow_pos _
  have hq : 0 < (2 : Nat) ^ (64 - w) := Nat.two_pow_pos _
  have hmul : (2 : Nat) ^ w * 2 ^ (64 - w) = 18446744073709551616 := by rw [← Nat.pow_add, show w + (64 - w) = 64 by omega]
  have e0 : IntKind.i64.wrap (64 - (w : Int)) = ((64 - w : Nat) : Int) := by rw [wr (by omega)]; omega
  rw [F10E, e0, gF (by omega), gF (by omega), Q26 .i64 _ (64 - w) (by simp only [IntKind.bits]; omega)]
  have hn64 : min (((64 - w : Nat) : Int)).toNat (IntKind.u64.bits) = 64 - w := by simp only [K7, IntKind.bits]; omega
  have hp : ((2 : Int) ^ (64 - w)) = ((2 ^ (64 - w) : Nat) : Int) := by simp
  unfold bShl
  rw [hn64, hp]
  generalize hQ : 2 ^ (64 - w) = Q at *
  generalize hW : 2 ^ w = V at *
  obtain ⟨x, rfl⟩ := Kf a0
  have hx : x < V := by omega
  have hxm : x * Q < V * Q := (Nat.mul_lt_mul_right hq).2 hx
  have e1 : IntKind.u64.wrap ((x : Int) * (Q : Int)) = ((x * Q : Nat) : Int) := by rw [← Int.natCast_mul, wru (by omega)]
  rw [e1]
  congr 1
  unfold sgn
  by_cases hb : 2 * (x : Int) < top (w : Int) + 1
  · rw [if_pos hb]
    have h3 : 2 * (x * Q) < V * Q := by
      have : (2 * x) * Q < V * Q := (Nat.mul_lt_mul_right hq).2 (by omega)
      rwa [Nat.mul_assoc] at this
    rw [wr (by omega), Int.natCast_mul, Int.mul_ediv_cancel _ (by omega)]
  · rw [if_neg hb]
    have h3 : V * Q ≤ 2 * (x * Q) := by
      have : V * Q ≤ (2 * x) * Q := Ko _ (by omega)
      rwa [Nat.mul_assoc] at this
    have e4 : IntKind.i64.wrap ((x * Q : Nat) : Int) = ((x : Int) - (V : Int)) * (Q : Int) := by
      have e5 : ((x : Int) - (V : Int)) * (Q : Int) = ((x * Q : Nat) : Int) - 18446744073709551616 := by
        rw [Int.sub_mul, ← Int.natCast_mul, ← Int.natCast_mul, hmul]
        rfl
      rw [e5, Qep]
      omega
    rw [e4, Int.mul_ediv_cancel _ (by omega), hM]
theorem Q3i {wide a b : Int} (hw : 1 ≤ wide ∧ wide ≤ 64) (ha : W5 wide a) (hb : W5 wide b) (h : b ≠ 0) : W5 wide (a / b) ∧ W5 wide (a % b) := by
  obtain ⟨a0, a1⟩ := ha
  obtain ⟨b0, b1⟩ := hb
  have h1 := Int.ediv_le_self b a0
  have h2 := Int.emod_lt_of_pos a (show 0 < b by omega)
  exact ⟨⟨Int.ediv_nonneg a0 b0, by omega⟩, ⟨Int.emod_nonneg a h, by omega⟩⟩
theorem Qew {wide a b : Int} (hw : 1 ≤ wide ∧ wide ≤ 64) (ha : W5 wide a) (hb : W5 wide b) :
    F6m wide a b = some (if b = 0 then top wide else a / b, if b = 0 then a else a % b, true) ∧ F4r wide a b = some (if b = 0 then top wide else a / b, if b = 0 then a else a % b, true) := by
  have ua := ha.u64 hw
  have ub := hb.u64 hw
  constructor
  · rw [F6mE, F5tE, Q2e wide a ua, Q2e wide b ub, Q3w hw ha, Q3w hw hb]
    simp only [J0, cond_true]
    rw [bF (by rfl)]
    by_cases h : b = 0
    · rw [bT (by simpa using h), Qbd hw, if_pos h, if_pos h]
      rfl
    · have hd := Q3i hw ha hb h
      have hu := hd.1.u64 hw
      have hf : (b == 0) = false := beqF h
      rw [hf, cond_false, cond_false, cond_false, if_neg h, if_neg h, Int.tdiv_eq_ediv_of_nonneg ha.1, Int.tmod_eq_emod_of_nonneg ha.1, wru hu]
  · rw [F4rE, F55E, Q2a, Q2a, Q3w hw ha, Q3w hw hb]
    simp only [J0, cond_true]
    rw [bF (by rfl)]
    by_cases h : b = 0
    · rw [bT (by simpa using h), Q2w wide hw, if_pos h, if_pos h]
      rfl
    · have hd := Q3i hw ha hb h
      have hu := hd.1.u64 hw
      have hf : (b == 0) = false := beqF h
      have hb0 := hb.1
      rw [F5gE, hf, cond_false, cond_false, gF (by omega), bT (by rfl), cond_false, cond_false, J0, if_neg h, if_neg h, Int.tdiv_eq_ediv_of_nonneg ha.1, Int.tmod_eq_emod_of_nonneg ha.1, wru hu]
theorem Qb0 (c : Bool) : F1j c = some (if c = true then 1 else 0) ∧ Fd c = some (if c = true then 1 else 0) := by
  rw [F1jE, FdE]
  cases c <;> exact ⟨rfl, rfl⟩
/-- What an operation makes of two words: the reference's and the program's are one. -/
theorem Qe0 (wide op a b : Int) (hw : 1 ≤ wide ∧ wide ≤ 62) (ha : W5 wide a) (hb : W5 wide b) (ho : (3 ≤ op ∧ op ≤ 12) ∨ (14 ≤ op ∧ op ≤ 18)) :
    ∃ r, W5 wide r ∧ ((op = 14 ∨ op = 15 ∨ op = 16 ∨ ((op = 17 ∨ op = 18) ∧ a ≤ 1 ∧ b ≤ 1)) → r ≤ 1) ∧ F62 wide op a b = some r ∧ F4p wide op a b = some r := by
  have hw' : 1 ≤ wide ∧ wide ≤ 64 := by omega
  have ht := Q4d hw'
  have hm := Q2w wide hw'
  obtain ⟨hb1, hb2, hb3⟩ := Q81 hw' ha hb
  obtain ⟨hD, hI⟩ := Qew hw' ha hb
  have hbool : ∀ c : Bool, W5 wide (if c = true then 1 else 0) ∧ (if c = true then (1 : Int) else 0) ≤ 1 := by
    intro c
    cases c
    · exact ⟨⟨by simp, by simp; omega⟩, by simp⟩
    · exact ⟨⟨by simp, by simp; omega⟩, by simp⟩
  rw [F62E, F4pE, hD, J0]
  rcases (show op = 3 ∨ op = 4 ∨ op = 5 ∨ op = 6 ∨ op = 7 ∨ op = 8 ∨ op = 9 ∨ op = 10 ∨ op = 11 ∨ op = 12 ∨ op = 14 ∨ op = 15 ∨ op = 16 ∨ op = 17 ∨ op = 18 by omega) with rfl | rfl | rfl | rfl | rfl | rfl | rfl | rfl | rfl | rfl | rfl | rfl | rfl | rfl | rfl
  all_goals simp only [show ∀ x y : Int, (x == y) = decide (x = y) from fun x y => rfl, decide_true, cond_true, cond_false, Int.reduceEq, decide_false, hm, J0, J1]
  · exact ⟨_, Q3m hw', by simp, Q3y hw' (Q92 _), by rw [Q1c hw' (Q92 _)]⟩
  · exact ⟨_, Q3m hw', by simp, Q3y hw' (Q92 _), by rw [Q1c hw' (Q92 _)]⟩
  · exact ⟨_, Q3m hw', by simp, Q3y hw' (Q92 _), by rw [Q1c hw' (Q92 _)]⟩
  · have hr : W5 wide (if b = 0 then top wide else a / b) := by
      by_cases h : b = 0
      · rw [if_pos h]
        exact ⟨by omega, Int.le_refl _⟩
      · rw [if_neg h]
        exact (Q3i hw' ha hb h).1
    exact ⟨_, hr, by simp, rfl, by rw [hI, J0]; dsimp only; rw [Q12 hw' hr]⟩
  · have hr : W5 wide (if b = 0 then a else a % b) := by
      by_cases h : b = 0
      · rw [if_pos h]
        exact ha
      · rw [if_neg h]
        exact (Q3i hw' ha hb h).2
    exact ⟨_, hr, by simp, rfl, by rw [hI, J0]; dsimp only; rw [Q12 hw' hr]⟩
  · exact ⟨_, hb1, by simp, rfl, by rw [Q12 hw' hb1]⟩
  · exact ⟨_, hb2, by simp, rfl, by rw [Q12 hw' hb2]⟩
  · exact ⟨_, hb3, by simp, rfl, by rw [Q12 hw' hb3]⟩
  · obtain ⟨r, h1, h2, q, h3, h4, h5⟩ := Q5u wide (by omega) a b ha (hb.u64 hw') true
    exact ⟨r, h1, by simp, h2, by rw [h3, J0, h5]⟩
  · obtain ⟨r, h1, h2, q, h3, h4, h5⟩ := Q5u wide (by omega) a b ha (hb.u64 hw') false
    exact ⟨r, h1, by simp, h2, by rw [h3, J0, h5]⟩
  · have hc := hbool (decide (a = b))
    exact ⟨_, hc.1, fun _ => hc.2, (Qb0 _).1, by rw [(Qb0 _).2, J0, Q12 hw' hc.1]⟩
  · have hc := hbool (decide (a < b))
    exact ⟨_, hc.1, fun _ => hc.2, (Qb0 _).1, by rw [(Qb0 _).2, J0, Q12 hw' hc.1]⟩
  · have hc := hbool (decide (sgn wide a < sgn wide b))
    rw [Q9j wide a hw ha, Q9j wide b hw hb, signed wide a hw ha, signed wide b hw hb]
    simp only [J0]
    exact ⟨_, hc.1, fun _ => hc.2, (Qb0 _).1, by rw [(Qb0 _).2, J0, Q12 hw' hc.1]⟩
  · refine ⟨_, hb1, fun h => ?_, rfl, by rw [Q12 hw' hb1]⟩
    have h1 : W5 1 a ∧ W5 1 b := by
      simp at h
      have ha0 := ha.1
      have hb0 := hb.1
      have e := Q57
      unfold W5
      omega
    have := (Q81 (wide := 1) (by omega) h1.1 h1.2).1.2
    rw [Q57] at this
    exact this
  · refine ⟨_, hb2, fun h => ?_, rfl, by rw [Q12 hw' hb2]⟩
    have h1 : W5 1 a ∧ W5 1 b := by
      simp at h
      have ha0 := ha.1
      have hb0 := hb.1
      have e := Q57
      unfold W5
      omega
    have := (Q81 (wide := 1) (by omega) h1.1 h1.2).2.1.2
    rw [Q57] at this
    exact this
/-- One operation on a stack of values: it takes its J6j off the end and lays its own there. -/
def Q7r {V : Type} (f : DNode → List V → V) (st : List V) (x : DNode) : List V :=
  st.take (st.length - (need x.1).1.toNat) ++ [f x (st.drop (st.length - (need x.1).1.toNat))]
/-- The stack ahead of the i-th operation. -/
def Q8 {V : Type} (f : DNode → List V → V) (t : List DNode) (i : Nat) : List V := (t.take i).foldl (Q7r f) []
theorem Q15 {V : Type} (f : DNode → List V → V) (t : List DNode) (i : Nat) (h : i < t.length) : Q8 f t (i + 1) = Q7r f (Q8 f t i) t[i] := by
  unfold Q8
  rw [K1c h, List.foldl_append]
  rfl
/-- No operation lacks its J6j. -/
def Qef {V : Type} (f : DNode → List V → V) (t : List DNode) : Prop := ∀ i (h : i < t.length), (need t[i].1).1.toNat ≤ (Q8 f t i).length
/-- Where the tree of the i-th operation begins, the stack is what the tree leaves below its value. -/
theorem Qfu {V : Type} (f : DNode → List V → V) (t : Bool × List DNode) (ht : t.2.length ≤ 48) (he : Qef f t.2) : ∀ (n i : Nat), i ≤ n → i < t.2.length →
    ∃ j : Nat, j ≤ i ∧ F29 t (i : Int) = some (j : Int) ∧ ∃ v, Q8 f t.2 (i + 1) = Q8 f t.2 j ++ [v] := by
  intro n
  induction n with
  | zero =>
    intro i hi h
    obtain rfl : i = 0 := by omega
    obtain ⟨m, hm, hm2⟩ := Q3o t.2[0].1
    have hen := he 0 h
    have hz : Q8 f t.2 0 = [] := rfl
    rw [hm, hz] at hen
    simp at hen
    subst hen
    refine ⟨0, by omega, ?_, ?_⟩
    · rw [F29E, gT (by omega), gT (by omega), show t.2.getD (Int.toNat ((0 : Nat) : Int)) (0, 0) = t.2[0] from J2 t.2 _ 0 h, Q9l, J0, hm, F8lE, gF (by omega)]
      rfl
    · rw [Q15 f t.2 0 h, hz]
      simp only [Q7r, List.take_nil]
      exact ⟨_, rfl⟩
  | succ n ih =>
    intro i hi h
    obtain ⟨m, hm, hm2⟩ := Q3o t.2[i].1
    have hen := he i h
    simp only [hm, K7] at hen
    have e0 : F29 t (i : Int) = F8l t (m : Int) (i : Int) := by
      rw [F29E, gT (by omega), gT (by omega), J2 t.2 _ i h, Q9l, J0, hm, J1]
    have es : Q8 f t.2 (i + 1) = (Q8 f t.2 i).take ((Q8 f t.2 i).length - m) ++ [f t.2[i] ((Q8 f t.2 i).drop ((Q8 f t.2 i).length - m))] := by
      rw [Q15 f t.2 i h]
      simp only [Q7r, hm, K7]
    rcases (show m = 0 ∨ m = 1 ∨ m = 2 by omega) with rfl | rfl | rfl
    · refine ⟨i, by omega, ?_, f t.2[i] ((Q8 f t.2 i).drop ((Q8 f t.2 i).length - 0)), ?_⟩
      · rw [e0, F8lE, gF (by omega)]
      · rw [es, Nat.sub_zero, List.take_length]
    · have hi0 : 0 < i := by
        rcases Nat.eq_zero_or_pos i with rfl | h0
        · have hz : Q8 f t.2 0 = [] := rfl
          rw [hz] at hen
          simp at hen
        · exact h0
      obtain ⟨j, hj, ej, v, ev⟩ := ih (i - 1) (by omega) (by omega)
      rw [show i - 1 + 1 = i by omega] at ev
      refine ⟨j, by omega, ?_, ?_⟩
      · rw [e0, F8lE, gT (by omega), dn1 i (by omega) hi0, ej, J0, F8lE, gF (by rw [wr (by omega)]; omega)]
        rfl
      · rw [es, ev]
        simp only [Kj, K1z, Nat.add_sub_cancel]
        rw [List.take_left' rfl]
        exact ⟨_, rfl⟩
    · have hi0 : 0 < i := by
        rcases Nat.eq_zero_or_pos i with rfl | h0
        · have hz : Q8 f t.2 0 = [] := rfl
          rw [hz] at hen
          simp at hen
        · exact h0
      obtain ⟨j, hj, ej, v, ev⟩ := ih (i - 1) (by omega) (by omega)
      rw [show i - 1 + 1 = i by omega] at ev
      have hj0 : 0 < j := by
        rcases Nat.eq_zero_or_pos j with rfl | h0
        · rw [ev] at hen
          have hz : Q8 f t.2 0 = [] := rfl
          rw [hz] at hen
          simp at hen
        · exact h0
      obtain ⟨j2, hj2, ej2, v2, ev2⟩ := ih (j - 1) (by omega) (by omega)
      rw [show j - 1 + 1 = j by omega] at ev2
      refine ⟨j2, by omega, ?_, ?_⟩
      · rw [e0, F8lE, gT (by omega), dn1 i (by omega) hi0, ej, J0, F8lE, gT (by rw [wr (by omega)]; omega), dn1 j (by omega) hj0, ej2, J0, F8lE, gF (by rw [wr (by rw [wr (by omega)]; omega), wr (by omega)]; omega)]
        rfl
      · rw [es, ev, ev2]
        simp only [Kk, Kj, K1z, List.cons_append, Kv, Ks, List.length_nil]
        rw [show (Q8 f t.2 j2).length + (0 + 1 + 1) - 2 = (Q8 f t.2 j2).length by omega, List.take_left' rfl]
        exact ⟨_, rfl⟩
theorem Q16 {V : Type} (f : DNode → List V → V) (t : List DNode) : Q8 f t 0 = [] := rfl
theorem Q2f {V : Type} (f : DNode → List V → V) (st args : List V) (x : DNode) {p : Int × Int} (m : Nat) (hn : need x.1 = ((m : Int), p)) (hm : args.length = m) : Q7r f (st ++ args) x = st ++ [f x args] := by
  simp only [Q7r, hn, K7]
  have : (st ++ args).length - m = st.length := by rw [Kj]; omega
  rw [this, List.take_left' rfl, List.drop_left' rfl]
theorem Q41 {wide vars : Int} {ks ks' : List Int} {x : DNode} (h : Q4g wide vars ks x = some ks') :
    (need x.1).2.2 ≠ 0 ∧ Q1r wide vars x.1 x.2 = true ∧ (need x.1).1.toNat ≤ ks.length ∧ (ks.drop (ks.length - (need x.1).1.toNat)).all (fun y => y == (need x.1).2.1) = true ∧ ks' = ks.take (ks.length - (need x.1).1.toNat) ++ [(need x.1).2.2] := by
  unfold Q4g at h
  split at h
  · simp at h
  · split at h
    · split at h
      · simp at h
      · split at h
        · rename_i h1 h2 h3 h4
          simp only [K0] at h
          refine ⟨h1, h2, ?_, h4, h.symm⟩
          obtain ⟨m, hm, _⟩ := Q3o x.1
          rw [hm] at h3 ⊢
          omega
        · simp at h
    · simp at h
theorem Qcb {op : Int} {m p o : Int} (h : need op = (m, p, o)) (ho : o ≠ 0) : (m = 0 ∧ o = 1 ∧ (op = 1 ∨ op = 2)) ∨ (m = 0 ∧ o = 2 ∧ op = 20) ∨ (m = 1 ∧ p = 1 ∧ o = 1 ∧ op = 13) ∨ (m = 1 ∧ p = 2 ∧ o = 2 ∧ op = 19) ∨ (m = 2 ∧ p = 1 ∧ o = 1 ∧ 3 ≤ op ∧ op ≤ 12) ∨ (m = 2 ∧ p = 1 ∧ o = 2 ∧ 14 ≤ op ∧ op ≤ 16) ∨ (m = 2 ∧ p = 2 ∧ o = 2 ∧ (op = 17 ∨ op = 18)) := by
  unfold need at h
  by_cases c1 : op = 1 ∨ op = 2
  · rw [if_pos c1] at h
    cases h
    exact .inl ⟨rfl, rfl, c1⟩
  rw [if_neg c1] at h
  by_cases c2 : op = 20
  · rw [if_pos c2] at h
    cases h
    exact .inr (.inl ⟨rfl, rfl, c2⟩)
  rw [if_neg c2] at h
  by_cases c3 : op = 13
  · rw [if_pos c3] at h
    cases h
    exact .inr (.inr (.inl ⟨rfl, rfl, rfl, c3⟩))
  rw [if_neg c3] at h
  by_cases c4 : op = 19
  · rw [if_pos c4] at h
    cases h
    exact .inr (.inr (.inr (.inl ⟨rfl, rfl, rfl, c4⟩)))
  rw [if_neg c4] at h
  by_cases c5 : 3 ≤ op ∧ op ≤ 12
  · rw [if_pos c5] at h
    cases h
    exact .inr (.inr (.inr (.inr (.inl ⟨rfl, rfl, rfl, c5⟩))))
  rw [if_neg c5] at h
  by_cases c6 : 14 ≤ op ∧ op ≤ 16
  · rw [if_pos c6] at h
    cases h
    exact .inr (.inr (.inr (.inr (.inr (.inl ⟨rfl, rfl, rfl, c6⟩)))))
  rw [if_neg c6] at h
  by_cases c7 : op = 17 ∨ op = 18
  · rw [if_pos c7] at h
    cases h
    exact .inr (.inr (.inr (.inr (.inr (.inr ⟨rfl, rfl, rfl, c7⟩)))))
  rw [if_neg c7] at h
  cases h
  exact absurd rfl ho
/-- What an operation makes of two words. -/
noncomputable def ap (wide op a b : Int) : Int := (F4p wide op a b).getD 0
theorem Q80 (wide op a b : Int) (hw : 1 ≤ wide ∧ wide ≤ 62) (ha : W5 wide a) (hb : W5 wide b) (ho : (3 ≤ op ∧ op ≤ 12) ∨ (14 ≤ op ∧ op ≤ 18)) :
    W5 wide (ap wide op a b) ∧ ((op = 14 ∨ op = 15 ∨ op = 16 ∨ ((op = 17 ∨ op = 18) ∧ a ≤ 1 ∧ b ≤ 1)) → ap wide op a b ≤ 1) ∧ F62 wide op a b = some (ap wide op a b) ∧ F4p wide op a b = some (ap wide op a b) := by
  obtain ⟨r, h1, h2, h3, h4⟩ := Qe0 wide op a b hw ha hb ho
  have e : ap wide op a b = r := by
    unfold ap
    rw [h4]
    rfl
  rw [e]
  exact ⟨h1, h2, h3, h4⟩
/-- The value of an operation with its parts' values, in a state. -/
noncomputable def vop (wide : Int) (s : List Int) (x : DNode) : List Int → Int
  | [] => if x.1 = 2 then s.getD x.2.toNat 0 else x.2
  | [b] => if x.1 = 13 then top wide - b else 1 - b
  | [a, b] => ap wide x.1 a b
  | _ => 0
inductive TypedV (wide : Int) : List Int → List Int → Prop
  | nil : TypedV wide [] []
  | snoc {ks st : List Int} {k v : Int} : TypedV wide ks st → W5 wide v → (k = 2 → v ≤ 1) → TypedV wide (ks ++ [k]) (st ++ [v])
theorem TypedV.inv {wide : Int} {ks st : List Int} (h : TypedV wide ks st) : (ks = [] ∧ st = []) ∨ ∃ ks' st' k v, ks = ks' ++ [k] ∧ st = st' ++ [v] ∧ TypedV wide ks' st' ∧ W5 wide v ∧ (k = 2 → v ≤ 1) := by
  cases h with
  | nil => exact .inl ⟨rfl, rfl⟩
  | snoc h1 h2 h3 => exact .inr ⟨_, _, _, _, rfl, rfl, h1, h2, h3⟩
theorem TypedV.len {wide : Int} {ks st : List Int} (h : TypedV wide ks st) : ks.length = st.length := by
  induction h with
  | nil => rfl
  | snoc _ _ _ ih => simp [ih]
theorem Q8z (wide : Int) (hw : 1 ≤ wide ∧ wide ≤ 62) (s : List Int) (hs : ∀ v ∈ s, W5 wide v) (x : DNode) (hx : U64 x.2) {ks ks' st : List Int}
    (h : Q4g wide (s.length : Int) ks x = some ks') (ht : TypedV wide ks st) : TypedV wide ks' (Q7r (vop wide s) st x) := by
  obtain ⟨h1, h2, h3, h4, rfl⟩ := Q41 h
  have he := Q4d (wide := wide) (by omega)
  obtain ⟨m, p, o, hn⟩ : ∃ m p o, need x.1 = (m, p, o) := ⟨_, _, _, rfl⟩
  have hlen := ht.len
  simp only [Q7r, hn] at h1 h3 h4 ⊢
  rw [← hlen]
  rcases Qcb hn h1 with ⟨rfl, rfl, ho⟩ | ⟨rfl, rfl, ho⟩ | ⟨rfl, rfl, rfl, ho⟩ | ⟨rfl, rfl, rfl, ho⟩ | ⟨rfl, rfl, rfl, ho⟩ | ⟨rfl, rfl, rfl, ho⟩ | ⟨rfl, rfl, rfl, ho⟩
  · simp only [Int.toNat_zero, Nat.sub_zero, List.take_length]
    rw [hlen, List.take_length, List.drop_length]
    refine .snoc ht ?_ (fun h => absurd h (by decide))
    unfold Q1r at h2
    rcases ho with ho | ho
    · rw [if_pos ho, Q14] at h2
      simp only [vop, ho]
      exact ⟨hx.1, h2.2.2⟩
    · rw [if_neg (by omega), if_pos ho, decide_eq_true_eq] at h2
      simp only [vop, ho, if_true]
      apply hs
      rw [K1, Kb (by have := hx.1; omega)]
      exact K4 _
  · simp only [Int.toNat_zero, Nat.sub_zero, List.take_length]
    rw [hlen, List.take_length, List.drop_length]
    unfold Q1r at h2
    rw [if_neg (by omega), if_neg (by omega), if_pos ho, decide_eq_true_eq] at h2
    have h0 := hx.1
    have hne : ¬ x.1 = 2 := by omega
    refine .snoc ht ?_ (fun _ => ?_)
    · simp only [vop, if_neg hne]
      exact ⟨h0, by omega⟩
    · simp only [vop, if_neg hne]
      omega
  · rcases ht.inv with ⟨rfl, rfl⟩ | ⟨ks, st, k, v, rfl, rfl, t1, t2, t3⟩
    · simp at h3
    · have l1 := t1.len
      have e1 : (ks ++ [k]).length - (1 : Int).toNat = ks.length := by simp
      rw [e1]
      rw [List.take_left' rfl, List.take_left' l1.symm, List.drop_left' l1.symm]
      simp only [vop, ho, if_true]
      refine .snoc t1 ?_ (fun h => absurd h (by decide))
      obtain ⟨f1, f2⟩ := t2
      exact ⟨by omega, by omega⟩
  · rcases ht.inv with ⟨rfl, rfl⟩ | ⟨ks, st, k, v, rfl, rfl, t1, t2, t3⟩
    · simp at h3
    · have l1 := t1.len
      have e1 : (ks ++ [k]).length - (1 : Int).toNat = ks.length := by simp
      rw [e1] at h4 ⊢
      rw [List.drop_left' rfl] at h4
      have hk : k = 2 := by simpa using h4
      rw [List.take_left' rfl, List.take_left' l1.symm, List.drop_left' l1.symm]
      have hne : ¬ x.1 = 13 := by omega
      simp only [vop, if_neg hne]
      obtain ⟨f1, f2⟩ := t2
      have f4 := t3 hk
      exact .snoc t1 ⟨by omega, by omega⟩ (fun _ => by omega)
  all_goals
    rcases ht.inv with ⟨rfl, rfl⟩ | ⟨ks, st, k, v, rfl, rfl, t1, t2, t3⟩
    · simp at h3
    · rcases t1.inv with ⟨rfl, rfl⟩ | ⟨ks, st, k', v', rfl, rfl, s1, s2, s3⟩
      · simp at h3
      · have l1 := s1.len
        have e1 : (ks ++ [k'] ++ [k]).length - (2 : Int).toNat = ks.length := by simp
        rw [e1] at h4 ⊢
        rw [Kk] at h4
        rw [List.drop_left' rfl] at h4
        simp only [List.cons_append, Kv, List.all_cons, List.all_nil, Bool.and_true, K5, beq_iff_eq] at h4
        rw [Kk ks, Kk st, List.take_left' rfl, List.take_left' l1.symm, List.drop_left' l1.symm]
        obtain ⟨q1, q2, _⟩ := Q80 wide x.1 v' v hw s2 t2 (by omega)
        refine .snoc s1 q1 ?_
        first
          | (intro h; exact absurd h (by decide))
          | (intro _; exact q2 (by first | omega | exact .inr (.inr (.inr ⟨ho, s3 h4.1, t3 h4.2⟩))))
theorem Q5a (wide : Int) (hw : 1 ≤ wide ∧ wide ≤ 62) (s : List Int) (hs : ∀ v ∈ s, W5 wide v) (t : List DNode) (hx : ∀ x ∈ t, U64 x.2) {r : List Int} (h : Q1b wide (s.length : Int) t [] = some r) :
    ∀ i, i ≤ t.length → ∃ ks, Q1b wide (s.length : Int) (t.drop i) ks = some r ∧ TypedV wide ks (Q8 (vop wide s) t i) := by
  intro i
  induction i with
  | zero => exact fun _ => ⟨[], h, .nil⟩
  | succ i ih =>
    intro hi
    obtain ⟨ks, h1, h2⟩ := ih (by omega)
    rw [K3 (by omega)] at h1
    simp only [Q1b, Ke] at h1
    obtain ⟨ks', h3, h4⟩ := h1
    exact ⟨ks', h4, by rw [Q15 _ _ _ (by omega)]; exact Q8z wide hw s hs _ (hx _ (K4 _)) h3 h2⟩
theorem Q5b (wide : Int) (hw : 1 ≤ wide ∧ wide ≤ 62) (s : List Int) (hs : ∀ v ∈ s, W5 wide v) (t : List DNode) (hx : ∀ x ∈ t, U64 x.2) {r : List Int} (h : Q1b wide (s.length : Int) t [] = some r) (i : Nat) (hi : i < t.length) :
    Q1r wide (s.length : Int) t[i].1 t[i].2 = true ∧
    (((t[i].1 = 1 ∨ t[i].1 = 2 ∨ t[i].1 = 20) ∧ need t[i].1 = (0, (need t[i].1).2)) ∨
     ((t[i].1 = 13 ∨ t[i].1 = 19) ∧ need t[i].1 = (1, (need t[i].1).2) ∧ ∃ st b, Q8 (vop wide s) t i = st ++ [b] ∧ W5 wide b ∧ (t[i].1 = 19 → b ≤ 1)) ∨
     (((3 ≤ t[i].1 ∧ t[i].1 ≤ 12) ∨ (14 ≤ t[i].1 ∧ t[i].1 ≤ 18)) ∧ need t[i].1 = (2, (need t[i].1).2) ∧ ∃ st a b, Q8 (vop wide s) t i = st ++ [a, b] ∧ W5 wide a ∧ W5 wide b)) := by
  obtain ⟨ks, h1, h2⟩ := Q5a wide hw s hs t hx h i (by omega)
  rw [K3 hi] at h1
  simp only [Q1b, Ke] at h1
  obtain ⟨ks', h3, _⟩ := h1
  obtain ⟨g1, g2, g3, g4, _⟩ := Q41 h3
  refine ⟨g2, ?_⟩
  obtain ⟨m, p, o, hn⟩ : ∃ m p o, need t[i].1 = (m, p, o) := ⟨_, _, _, rfl⟩
  generalize Q8 (vop wide s) t i = st at h2 ⊢
  simp only [hn] at g1 g3 g4 ⊢
  rcases Qcb hn g1 with ⟨rfl, rfl, ho⟩ | ⟨rfl, rfl, ho⟩ | ⟨rfl, rfl, rfl, ho⟩ | ⟨rfl, rfl, rfl, ho⟩ | ⟨rfl, rfl, rfl, ho⟩ | ⟨rfl, rfl, rfl, ho⟩ | ⟨rfl, rfl, rfl, ho⟩
  · exact .inl ⟨by omega, rfl⟩
  · exact .inl ⟨by omega, rfl⟩
  · rcases h2.inv with ⟨rfl, rfl⟩ | ⟨ks, st, k, v, rfl, rfl, t1, t2, t3⟩
    · simp at g3
    · exact .inr (.inl ⟨.inl ho, rfl, st, v, rfl, t2, fun h => by omega⟩)
  · rcases h2.inv with ⟨rfl, rfl⟩ | ⟨ks, st, k, v, rfl, rfl, t1, t2, t3⟩
    · simp at g3
    · have e1 : (ks ++ [k]).length - (1 : Int).toNat = ks.length := by simp
      rw [e1, List.drop_left' rfl] at g4
      exact .inr (.inl ⟨.inr ho, rfl, st, v, rfl, t2, fun _ => t3 (by simpa using g4)⟩)
  all_goals
    rcases h2.inv with ⟨rfl, rfl⟩ | ⟨ks, st, k, v, rfl, rfl, t1, t2, t3⟩
    · simp at g3
    · rcases t1.inv with ⟨rfl, rfl⟩ | ⟨ks, st, k', v', rfl, rfl, s1, s2, s3⟩
      · simp at g3
      · exact .inr (.inr ⟨by omega, rfl, st, v', v, by simp, s2, t2⟩)
theorem Qdx (wide b : Int) (hw : 1 ≤ wide ∧ wide ≤ 62) (hb : W5 wide b) : bAnd .u64 (bXor .u64 18446744073709551615 b) (top wide) = top wide - b := by
  obtain ⟨h1, h2⟩ := Q86 (wide := wide) (by omega) hb.1 hb.2
  rw [Q1c (by omega) h1, h2]
theorem Q5x (wide : Int) (hw : 1 ≤ wide ∧ wide ≤ 62) (s : Bool × List Int) (hl : s.2.length ≤ 1000) (hs : ∀ v ∈ s.2, W5 wide v) (t : Bool × List DNode) (ht : t.2.length ≤ 1000) (hx : WfN t.2) {r : List Int} (h : Q1b wide (s.2.length : Int) t.2 [] = some r) (d : Nat) :
    ∀ (i : Nat) (b : Bool), i + d = t.2.length → (Q8 (vop wide s.2) t.2 i).length ≤ i →
    ∃ b', F3m wide s (b, Q8 (vop wide s.2) t.2 i) t (t.2.length : Int) (i : Int) = some (b', Q8 (vop wide s.2) t.2 t.2.length) := by
  have he := Q4d (wide := wide) (by omega)
  have hlim := J7
  induction d with
  | zero =>
    intro i b hi hst
    obtain rfl : i = t.2.length := by omega
    rw [F3mE, gF (by omega)]
    exact ⟨b, rfl⟩
  | succ d ih =>
    intro i b0 hi hst
    have hlt : i < t.2.length := by omega
    have hu := hx _ (K4 hlt)
    have go := fun b => ih (i + 1) b (by omega)
    obtain ⟨hlf, hop⟩ := Q5b wide hw s.2 hs t.2 hx h i hlt
    have es := Q15 (vop wide s.2) t.2 i hlt
    rw [F3mE, gT (by omega), gT (by omega), gT (by omega), J2 t.2 _ i hlt]
    simp only [up1 i (by omega)]
    unfold Q1r at hlf
    generalize hS : Q8 (vop wide s.2) t.2 i = st at *
    rcases hop with ⟨ho, hn⟩ | ⟨ho, hn, st, b, rfl, fb, hb⟩ | ⟨ho, hn, st, a, b, rfl, fa, fb⟩
    · have e1 := Q2f (vop wide s.2) st [] t.2[i] 0 hn rfl
      rw [K1k] at e1
      rw [es, e1] at go
      obtain ⟨b', g⟩ := go (b0 && false) (by simp; omega)
      refine ⟨b', ?_⟩
      rcases ho with ho | ho | ho
      · have e2 : vop wide s.2 t.2[i] [] = t.2[i].2 := by simp [vop, ho]
        rw [e2] at g
        rw [ho, bT (by rfl), bT (by rfl), gT (by simp; omega), g]
        rfl
      · have e2 : vop wide s.2 t.2[i] [] = s.2.getD t.2[i].2.toNat 0 := by simp [vop, ho]
        rw [e2] at g
        rw [if_neg (by omega), if_pos ho, decide_eq_true_eq] at hlf
        have hu0 := hu.1
        rw [ho, bF (by rfl), bF (by rfl), bT (by rfl), gT hu0, gT hlf, gT (by simp; omega), g]
        rfl
      · have e2 : vop wide s.2 t.2[i] [] = t.2[i].2 := by simp [vop, ho]
        rw [e2] at g
        rw [ho, bF (by rfl), bT (by rfl), gT (by simp; omega), g]
        rfl
    · have e1 := Q2f (vop wide s.2) st [b] t.2[i] 1 hn rfl
      rw [es, e1] at go
      obtain ⟨b', g⟩ := go b0 (by simp; simp at hst; omega)
      refine ⟨b', ?_⟩
      have hlen1 : (st ++ [b]).length = st.length + 1 := by simp
      have e3 : IntKind.i64.wrap (((st ++ [b]).length : Int) - 1) = (st.length : Int) := by
        rw [hlen1, wr (by omega)]
        omega
      have e4 : (st ++ [b]).getD (Int.toNat (st.length : Int)) 0 = b := by simp
      have e5 : ∀ v : Int, (st ++ [b]).set (Int.toNat (st.length : Int)) v = st ++ [v] := fun v => by simp
      have e6 : (st.length : Int) < ((st ++ [b]).length : Int) := by omega
      have fb' := fb
      obtain ⟨f1, f2⟩ := fb
      rw [e3, e4]
      rcases ho with ho | ho
      · have e2 : vop wide s.2 t.2[i] [b] = top wide - b := by simp [vop, ho]
        rw [e2] at g
        rw [ho, bF (by rfl), bF (by rfl), bF (by rfl), bT (by rfl), gT (by omega), gT e6, Q2w wide (by omega), J0, gT (by omega), gT e6, e5, Qdx wide b hw fb', g]
        rfl
      · have e2 : vop wide s.2 t.2[i] [b] = 1 - b := by simp [vop, ho]
        rw [e2] at g
        have hb1 := hb ho
        rw [ho, bF (by rfl), bF (by rfl), bF (by rfl), bF (by rfl), bT (by rfl), gT (by omega), gT e6, gT (by omega), gT e6, e5, wru (by omega), g]
        rfl
    · have e1 := Q2f (vop wide s.2) st [a, b] t.2[i] 2 hn rfl
      rw [es, e1] at go
      obtain ⟨b', g⟩ := go (b0 && false) (by simp; simp at hst; omega)
      refine ⟨b', ?_⟩
      have hlen : (st ++ [a, b]).length = st.length + 2 := by simp
      have e3 : IntKind.i64.wrap (((st ++ [a, b]).length : Int) - 1) = ((st.length + 1 : Nat) : Int) := by rw [hlen, wr (by omega)]; omega
      have e3' : IntKind.i64.wrap (((st.length + 1 : Nat) : Int) - 1) = (st.length : Int) := by rw [wr (by omega)]; omega
      have e4 : (st ++ [a, b]).getD (Int.toNat ((st.length + 1 : Nat) : Int)) 0 = b := by simp [K1]
      have e4' : (st ++ [a, b]).getD (Int.toNat (st.length : Int)) 0 = a := by simp [K1]
      have e2 : vop wide s.2 t.2[i] [a, b] = ap wide t.2[i].1 a b := rfl
      have e7 : ((st ++ [a, b]).take (Int.toNat (st.length : Int))).drop 0 = st := by simp
      rw [e2] at g
      rw [e3, e3', e4, e4', e7, hlen, bF (beqF (by omega)), bF (beqF (by omega)), bF (beqF (by omega)), bF (beqF (by omega)), bF (beqF (by omega)), gT (by omega), gT (by omega), gT (by omega), gT (by omega), gT (by omega), gT (by omega), (Q80 wide t.2[i].1 a b hw fa fb ho).2.2.2, J0, gT (by simp; omega), g]
      rfl
theorem Qf2 (wide : Int) (hw : 1 ≤ wide ∧ wide ≤ 62) (s : Bool × List Int) (hl : s.2.length ≤ 1000) (hs : ∀ v ∈ s.2, W5 wide v) (t : Bool × List DNode) (ht : t.2.length ≤ 48) (hx : WfN t.2) {r : List Int} (h : Q1b wide (s.2.length : Int) t.2 [] = some r) :
    ∀ (n i : Nat), i ≤ n → i < t.2.length → ∃ st v, Q8 (vop wide s.2) t.2 (i + 1) = st ++ [v] ∧ F48 wide t (i : Int) s = some v := by
  have hen : Qef (vop wide s.2) t.2 := by
    intro i hi
    obtain ⟨_, hop⟩ := Q5b wide hw s.2 hs t.2 hx h i hi
    rcases hop with ⟨ho, hn⟩ | ⟨ho, hn, st, b, e, fb, hb⟩ | ⟨ho, hn, st, a, b, e, fa, fb⟩
    · rw [hn]
      simp
    · rw [hn, e]
      simp
    · rw [hn, e]
      simp
  have he := Q4d (wide := wide) (by omega)
  intro n
  induction n using Nat.strongRecOn with
  | _ n ih =>
    intro i hi hlt
    have hu := hx _ (K4 hlt)
    obtain ⟨hlf, hop⟩ := Q5b wide hw s.2 hs t.2 hx h i hlt
    rw [Q15 _ _ _ hlt, F48E, gT (by omega), gT (by omega), J2 t.2 _ i hlt, Q9l, J0]
    have hpos : ∀ {x : List Int}, 0 < x.length → Q8 (vop wide s.2) t.2 i = x → 0 < i := by
      intro x hl e
      rcases Nat.eq_zero_or_pos i with rfl | h0
      · rw [Q16] at e
        subst e
        simp at hl
      · exact h0
    rcases hop with ⟨ho, hn⟩ | ⟨ho, hn, st, b, e, fb, hb⟩ | ⟨ho, hn, st, a, b, e, fa, fb⟩
    · refine ⟨Q8 (vop wide s.2) t.2 i, vop wide s.2 t.2[i] [], ?_, ?_⟩
      · have := Q2f (vop wide s.2) (Q8 (vop wide s.2) t.2 i) [] t.2[i] 0 hn rfl
        rwa [K1k] at this
      · have h20 : (need t.2[i].1).1 = 0 := by rw [hn]
        unfold Q1r at hlf
        by_cases h2 : t.2[i].1 = 2
        · rw [if_neg (by omega), if_pos h2, decide_eq_true_eq] at hlf
          have hu0 := hu.1
          rw [bT (by simpa using h2), gT hu0, gT hlf]
          simp only [vop, if_pos h2]
        · rw [bF (beqF h2), h20, bT (by rfl)]
          simp only [vop, if_neg h2]
    · have h0 := hpos (by simp) e
      obtain ⟨st', v, g1, g2⟩ := ih (i - 1) (by omega) (i - 1) (by omega) (by omega)
      rw [show i - 1 + 1 = i by omega, e] at g1
      have q0 : st = st' ∧ [b] = [v] := List.append_inj' g1 rfl
      have q0' : v = b := by have := q0.2; simp at this; exact this.symm
      subst q0'
      refine ⟨st, vop wide s.2 t.2[i] [v], ?_, ?_⟩
      · rw [e]
        exact Q2f (vop wide s.2) st [v] t.2[i] 1 hn rfl
      · have h20 : (need t.2[i].1).1 = 1 := by rw [hn]
        rw [bF (beqF (by omega)), h20, bF (by rfl), dn1 i (by omega) h0, g2]
        obtain ⟨f1, f2⟩ := fb
        obtain ⟨q1, q2⟩ := Q86 (wide := wide) (by omega) f1 f2
        rcases ho with ho | ho
        · rw [ho, bT (by rfl), J0, Q3y (by omega) q1, J0, q2]
          simp only [vop, ho, if_true]
        · have hb1 := hb ho
          rw [ho, bF (by rfl), bT (by rfl), J0, wru (by omega)]
          simp only [vop, ho]
          rfl
    · have h0 := hpos (by simp) e
      obtain ⟨j, hj, q2, v2, q3⟩ := Qfu (vop wide s.2) t ht hen (i - 1) (i - 1) (by omega) (by omega)
      rw [show i - 1 + 1 = i by omega, e] at q3
      have q4 : st ++ [a] = Q8 (vop wide s.2) t.2 j ∧ [b] = [v2] := List.append_inj' (by rw [← q3]; simp) rfl
      obtain ⟨q5, q6⟩ := q4
      have hj0 : 0 < j := by
        rcases Nat.eq_zero_or_pos j with rfl | hj0
        · rw [Q16] at q5
          simp at q5
        · exact hj0
      obtain ⟨st1, v1, g1, g2⟩ := ih (j - 1) (by omega) (j - 1) (by omega) (by omega)
      rw [show j - 1 + 1 = j by omega, ← q5] at g1
      obtain ⟨st3, v3, g3, g4⟩ := ih (i - 1) (by omega) (i - 1) (by omega) (by omega)
      rw [show i - 1 + 1 = i by omega, e] at g3
      have r1 : st = st1 ∧ [a] = [v1] := List.append_inj' g1 rfl
      have r3 : st ++ [a] = st3 ∧ [b] = [v3] := List.append_inj' (by rw [← g3]; simp) rfl
      have r1' : v1 = a := by have := r1.2; simp at this; exact this.symm
      have r3' : v3 = b := by have := r3.2; simp at this; exact this.symm
      subst r1' r3'
      refine ⟨st, vop wide s.2 t.2[i] [v1, v3], ?_, ?_⟩
      · rw [e]
        exact Q2f (vop wide s.2) st [v1, v3] t.2[i] 2 hn rfl
      · have h20 : (need t.2[i].1).1 = 2 := by rw [hn]
        rw [bF (beqF (by omega)), h20, bF (by rfl), bF (beqF (by omega)), bF (beqF (by omega)), dn1 i (by omega) h0, q2, J0, dn1 j (by omega) hj0, g2, J0, g4, J0, (Q80 wide t.2[i].1 v1 v3 hw fa fb ho).2.2.1, J0]
        rfl
/-- the value of a term in a state -/
noncomputable def valT (wide : Int) (s : List Int) (t : List DNode) : Int := (Q8 (vop wide s) t t.length).getD 0 0
/-- The value of a good term in a good state: the reference's and the program's are one; of a condition it is 0 or 1. -/
theorem Q23 (wide : Int) (hw : 1 ≤ wide ∧ wide ≤ 62) (s : Bool × List Int) (hl : s.2.length ≤ 1000) (hs : ∀ v ∈ s.2, W5 wide v) (t : Bool × List DNode) (hx : WfN t.2) (hk : Q1 wide (s.2.length : Int) t.2 ≠ 0) :
    W5 wide (valT wide s.2 t.2) ∧ (Q1 wide (s.2.length : Int) t.2 = 2 → valT wide s.2 t.2 ≤ 1) ∧ F48 wide t (IntKind.i64.wrap ((t.2.length : Int) - 1)) s = some (valT wide s.2 t.2) ∧ Fm wide t s = some (valT wide s.2 t.2) := by
  obtain ⟨_, _, _, _, hl1, hl2⟩ := Qx hk
  have hne : t.2 ≠ [] := by intro h; rw [h] at hl1; simp at hl1
  obtain ⟨hf, _⟩ := Q1f hk hne
  obtain ⟨ks, h3, h4⟩ := Q5a wide hw s.2 hs t.2 hx hf t.2.length (K12 _)
  rw [List.drop_length] at h3
  simp only [Q1b, K0] at h3
  subst h3
  obtain ⟨st, v, h1, h2⟩ := Qf2 wide hw s hl hs t hl2 hx hf t.2.length (t.2.length - 1) (by omega) (by omega)
  rw [show t.2.length - 1 + 1 = t.2.length by omega] at h1
  have h5 := h4.inv
  rw [h1] at h5
  rcases h5 with ⟨h5, _⟩ | ⟨ks', st', k', v', e1, e2, h6, h7, h8⟩
  · simp at h5
  · have hk0 : [] = ks' ∧ [Q1 wide (s.2.length : Int) t.2] = [k'] := List.append_inj' (s₁ := []) e1 rfl
    have hv0 : st = st' ∧ [v] = [v'] := List.append_inj' e2 rfl
    obtain ⟨rfl, e3⟩ := hk0
    obtain ⟨rfl, e4⟩ := hv0
    simp only [Kq, and_true] at e3 e4
    subst e3 e4
    have hlen := h6.len
    have hst : st = [] := K1v (by simpa using hlen.symm)
    subst hst
    have hval : valT wide s.2 t.2 = v := by unfold valT; rw [h1]; rfl
    rw [hval]
    refine ⟨h7, h8, ?_, ?_⟩
    · rw [dn1 t.2.length (by omega) (by omega), h2]
    · obtain ⟨b', g⟩ := Q5x wide hw s hl hs t (by omega) hx hf t.2.length 0 false (by omega) (by simp [Q16])
      rw [Q16, h1] at g
      rw [FmE]
      have g' : F3m wide s (false, []) t (t.2.length : Int) 0 = some (b', [] ++ [v]) := g
      rw [g', J0, gT (by simp)]
      rfl
/-- The i-th variable's word in a state's number. -/
def Q9x (wide no : Int) (i : Nat) : Int := no / 2 ^ (wide.toNat * i) % (top wide + 1)
/-- the state of a number -/
def Qb (p : DProgram) (no : Int) : List Int := (List.range p.2.1.toNat).map (Q9x p.1 no)
/-- what is known of a small program's width and number of variables -/
structure Sml (p : DProgram) : Prop where
  w1 : 1 ≤ p.1
  w2 : p.1 ≤ 5
  v1 : 1 ≤ p.2.1
  v2 : p.2.1 ≤ 4
  a1 : p.1 * p.2.1 ≤ 5
  a2 : 1 ≤ p.1 * p.2.1
theorem Q94 {p : DProgram} (h : Qp p = true) : Sml p := by
  obtain ⟨_, h1, h2, h3, h4, h5, h6⟩ := Q40 h
  exact ⟨h1, h2, h3, h4, h5, h6⟩
theorem Q1k {p : DProgram} (hp : Sml p) (no : Int) : ∀ v ∈ Qb p no, W5 p.1 v := by
  intro v hv
  obtain ⟨i, _, rfl⟩ := Kt.1 hv
  exact Q3m ⟨hp.w1, by have := hp.w2; omega⟩
theorem Q19 {p : DProgram} (hp : Sml p) (no : Int) : ((Qb p no).length : Int) = p.2.1 := by
  have := hp.v1
  simp [Qb]
  omega
theorem Q36 (i : Nat) (h : i < 63) : bShl .i64 1 (i : Int) = ((2 ^ i : Nat) : Int) := by
  unfold bShl
  have e : min ((i : Int)).toNat (IntKind.i64.bits) = i := by
    simp only [K7, IntKind.bits]
    omega
  rw [e, Int.one_mul]
  have h2 : (2 : Nat) ^ i < 2 ^ 63 := Nat.pow_lt_pow_right (by decide) h
  have h3 : ((2 ^ i : Nat) : Int) < ((2 ^ 63 : Nat) : Int) := by exact_mod_cast h2
  have h4 : (0 : Int) ≤ ((2 ^ i : Nat) : Int) := Int.natCast_nonneg _
  rw [wr]
  · simp
  · simp at h4 h3; omega
/-- the number of states -/
def Q0 (p : DProgram) : Nat := 2 ^ (p.1 * p.2.1).toNat
theorem Q6 {p : DProgram} (hp : Sml p) : 2 ≤ Q0 p ∧ Q0 p ≤ 32 := by
  have h1 := hp.a1
  have h2 := hp.a2
  unfold Q0
  have h3 : (2 : Nat) ^ 1 ≤ 2 ^ (p.1 * p.2.1).toNat := Nat.pow_le_pow_right (by decide) (by omega)
  have h4 : (2 : Nat) ^ (p.1 * p.2.1).toNat ≤ 2 ^ 5 := Nat.pow_le_pow_right (by decide) (by omega)
  simp at h3 h4
  omega
theorem Qc2 {p : DProgram} (hp : Sml p) : F4o p = some (Q0 p : Int) := by
  have h1 := hp.a1
  have h2 := hp.a2
  obtain ⟨n, hn⟩ := Kf (show 0 ≤ p.1 * p.2.1 by omega)
  rw [F4oE, Q0, hn]
  rw [hn] at h1
  rw [wr (by omega), wru (by omega), gF (by omega), Q36 n (by omega), K7]
theorem Q13 {p : DProgram} (hp : Sml p) : F47 p = some (Q0 p : Int) := by
  have h1 := hp.a1
  have h2 := hp.a2
  obtain ⟨n, hn⟩ := Kf (show 0 ≤ p.1 * p.2.1 by omega)
  rw [F47E, Q0, hn]
  rw [hn] at h1
  rw [wr (by omega), gF (by omega), Q36 n (by omega), K7]
theorem Q62 {w i : Nat} (h : (w : Int) * (i : Int) ≤ 5) : w * i ≤ 5 := by
  rw [← Int.natCast_mul] at h
  omega
theorem Q5v {p : DProgram} (hp : Sml p) (no : Int) (i : Nat) (hi : (i : Int) < p.2.1) (hn : 0 ≤ no ∧ no < 1000) :
    ∃ a q : Int, 0 ≤ a ∧ IntKind.u64.wrap (IntKind.i64.wrap ((i : Int) * p.1)) = a ∧ IntKind.i64.wrap (p.1 * (i : Int)) = a ∧ bShr .i64 no a = q ∧ bShr .u64 (IntKind.u64.wrap no) a = q ∧ 0 ≤ q ∧ q ≤ no ∧ Q9x p.1 no i = q % (top p.1 + 1) := by
  have h1 : p.1 * (i : Int) ≤ p.1 * p.2.1 := Int.mul_le_mul_of_nonneg_left (by omega) (by have := hp.w1; omega)
  have h2 := hp.a1
  have h3 := hp.w1
  obtain ⟨w, hw⟩ := Kf (show 0 ≤ p.1 by omega)
  rw [hw] at h1 h2 ⊢
  have hwi := Q62 (w := w) (i := i) (by omega)
  have e1 : (w : Int) * (i : Int) = ((w * i : Nat) : Int) := by simp
  refine ⟨((w * i : Nat) : Int), no / 2 ^ (w * i), Int.natCast_nonneg _, ?_, ?_, ?_, ?_, Int.ediv_nonneg hn.1 (Int.le_of_lt (Int.pow_pos (by decide))), Int.ediv_le_self _ hn.1, rfl⟩
  · rw [Int.mul_comm, e1, wr (by omega), wru (by omega)]
  · rw [e1, wr (by omega)]
  · exact Q26 .i64 no _ (by simp only [IntKind.bits]; omega)
  · rw [wru (by omega)]
    exact Q26 .u64 no _ (by simp only [IntKind.bits]; omega)
theorem Qdt (w : Nat) (h : w ≤ 5) : IntKind.i64.wrap (bShl .i64 1 (w : Int) - 1) = 2 ^ w - 1 := by
  have hp : (2 : Nat) ^ w ≤ 2 ^ 5 := Nat.pow_le_pow_right (by decide) h
  have h0 : 0 < (2 : Nat) ^ w := Nat.two_pow_pos w
  rw [Q36 w (by omega), wr (by omega)]
  simp
theorem Qet (q : Int) (w : Nat) (hq : 0 ≤ q ∧ q < 1000) (h : w ≤ 5) : bAnd .i64 q (2 ^ w - 1) = q % 2 ^ w :=
  bits_mask .i64 63 (by decide) (fun n h0 h1 => wr ⟨by omega, by simpa using h1⟩) w (by omega) _ hq.1 (by simp; omega)
theorem l7Of {p : DProgram} (hp : Sml p) (no : Int) (hn : 0 ≤ no ∧ no < 1000) : F2a p no = some (false, Qb p no) := by
  obtain ⟨h1, h2, h3, h4, h5, h6⟩ := hp
  have hp : Sml p := ⟨h1, h2, h3, h4, h5, h6⟩
  have hlim := J7
  obtain ⟨v, hv⟩ := Kf (show 0 ≤ p.2.1 by omega)
  obtain ⟨w, hw⟩ := Kf (show 0 ≤ p.1 by omega)
  have key : ∀ (d i : Nat) (b : Bool) (out : List Int), i + d = v → out.length = i → F8j no p (b, out) (i : Int) = some ((if d = 0 then b else false), out ++ (List.range' i d).map (Q9x p.1 no)) := by
    intro d
    induction d with
    | zero =>
      intro i b out hi ho
      rw [F8jE, gF (by omega)]
      simp
    | succ d ih =>
      intro i b out hi ho
      obtain ⟨a, q, p0, f1, f2, f3, f4, q0, q1, fw⟩ := Q5v hp no i (by omega) hn
      have e3 := Qdt w (by omega)
      have e5 := Qet q w ⟨q0, by omega⟩ (by omega)
      have e6 : ((2 : Int) ^ w) = top p.1 + 1 := by rw [hw, Q46]; simp
      have hu := (Q3m (wide := p.1) (q := q) (by omega)).u64 (wide := p.1) (by omega)
      rw [F8jE, gT (by omega), f1, gF (by omega), wru (by omega), gF (by omega), hw, e3, f3, e5, e6, wru hu, gT (by simp; omega), up1 i (by omega), ih (i + 1) _ _ (by omega) (by simp; omega), ← fw, J0]
      simp [K1a, hw]
  have := key v 0 true [] (by omega) rfl
  rw [F2aE, Qb, K1e, hv, K7]
  have this' : F8j no p (true, []) 0 = _ := this
  rw [this', J0, if_neg (by omega)]
  rfl
theorem Q52 {p : DProgram} (hp : Sml p) (no : Int) (hn : 0 ≤ no ∧ no < 1000) : F1p p no = some (false, Qb p no) := by
  obtain ⟨h1, h2, h3, h4, h5, h6⟩ := hp
  have hp : Sml p := ⟨h1, h2, h3, h4, h5, h6⟩
  have hlim := J7
  obtain ⟨v, hv⟩ := Kf (show 0 ≤ p.2.1 by omega)
  have key : ∀ (d i : Nat) (out : List Int), i + d = v → out.length = i → F84 no p (false, out) p.2.1 (i : Int) = some (false, out ++ (List.range' i d).map (Q9x p.1 no)) := by
    intro d
    induction d with
    | zero =>
      intro i out hi ho
      rw [F84E, gF (by omega)]
      simp
    | succ d ih =>
      intro i out hi ho
      obtain ⟨a, q, p0, f1, f2, f3, f4, q0, q1, fw⟩ := Q5v hp no i (by omega) hn
      rw [F84E, gT (by omega), f2, gF (by omega), Q2w p.1 (by omega), J0, f4, Q1c (wide := p.1) (by omega) ⟨q0, by omega⟩, gT (by simp; omega), up1 i (by omega), K1r, ih (i + 1) _ (by omega) (by simp; omega), ← fw, J0]
      simp [K1a]
  have := key v 0 [] (by omega) rfl
  rw [F1pE, Qb, K1e, hv, K7]
  rw [hv] at this
  have this' : F84 no p (false, []) (v : Int) 0 = _ := this
  rw [this', J0]
  rfl
/-- Does a condition hold in a state? -/
noncomputable def Q4v (p : DProgram) (t : List DNode) (s : List Int) : Bool := valT p.1 s t == 1
/-- Does a condition hold in the state of a number? -/
noncomputable def Qc (p : DProgram) (t : List DNode) (no : Int) : Bool := Q4v p t (Qb p no)
theorem Qab {p : DProgram} (hp : Sml p) (t : Bool × List DNode) (hx : WfN t.2) (hk : Q1 p.1 p.2.1 t.2 ≠ 0) (b : Bool) (s : List Int) (hl : (s.length : Int) = p.2.1) (hs : ∀ v ∈ s, W5 p.1 v) :
    F4q p t (b, s) = some (Q4v p t.2 s) ∧ Fo p t (b, s) = some (Q4v p t.2 s) := by
  have h1 := hp.w1
  have h2 := hp.w2
  have h3 := hp.v2
  obtain ⟨_, _, h4, h5⟩ := Q23 p.1 (by omega) (b, s) (by simp only; omega) hs t hx (by rw [show (((b, s) : Bool × List Int).2.length : Int) = p.2.1 from hl]; exact hk)
  exact ⟨by rw [F4qE, h4]; rfl, by rw [FoE, h5]; rfl⟩
theorem Q3k {p : DProgram} (hp : Sml p) (t : Bool × List DNode) (hx : WfN t.2) (hk : Q1 p.1 p.2.1 t.2 ≠ 0) (b : Bool) (no : Int) :
    F4q p t (b, Qb p no) = some (Qc p t.2 no) ∧ Fo p t (b, Qb p no) = some (Qc p t.2 no) :=
  Qab hp t hx hk b _ (Q19 hp no) (Q1k hp no)
theorem Q75 {p : DProgram} (hp : Sml p) (t : Bool × List DNode) (hx : WfN t.2) (hk : Q1 p.1 p.2.1 t.2 ≠ 0) (b : Bool) (no : Int) :
    F4q p t (b, Qb p no) = some (Qc p t.2 no) := by
  have h1 := hp.w1
  have h2 := hp.w2
  have h3 := hp.v2
  have hl := Q19 hp no
  obtain ⟨_, _, h4, _⟩ := Q23 p.1 (by omega) (b, Qb p no) (by simp only; omega) (Q1k hp no) t hx (by rw [show (((b, Qb p no) : Bool × List Int).2.length : Int) = p.2.1 from hl]; exact hk)
  rw [F4qE, h4]; rfl
/-- The numbers from i on, d of them, at which a condition holds. -/
noncomputable def Q3 (p : DProgram) (t : List DNode) (i d : Nat) : List Int := ((List.range' i d).map Int.ofNat).filter (Qc p t)
theorem Q38 (p : DProgram) (t : List DNode) (i d : Nat) : Q3 p t i (d + 1) = (if Qc p t (i : Int) = true then [(i : Int)] else []) ++ Q3 p t (i + 1) d := by
  simp only [Q3, K1a, K14, K1l]
  cases hh : Qc p t (i : Int) <;> simp [hh]
theorem Ql {p : DProgram} {t : List DNode} {n : Nat} {x : Int} : x ∈ Q3 p t 0 n ↔ (0 ≤ x ∧ x < n) ∧ Qc p t x = true := by
  simp only [Q3, K1m, Kt, List.mem_range'_1]
  constructor
  · rintro ⟨⟨a, h1, rfl⟩, h2⟩
    exact ⟨⟨Int.natCast_nonneg _, by have := h1.2; simp; omega⟩, h2⟩
  · rintro ⟨⟨h1, h2⟩, h3⟩
    exact ⟨⟨x.toNat, by omega, Int.toNat_of_nonneg h1⟩, h3⟩
theorem Qg (p : DProgram) (t : List DNode) (i d : Nat) : (Q3 p t i d).length ≤ d := by
  refine Kx (K1q _ _) ?_
  simp
theorem Qe7 {p : DProgram} (hp : Sml p) (t : Bool × List DNode) (hx : WfN t.2) (hk : Q1 p.1 p.2.1 t.2 ≠ 0) :
    ∀ (d i : Nat) (b : Bool) (out : List Int), i + d = Q0 p → out.length ≤ i → ∃ b', F5k t p (b, out) (i : Int) = some (b', out ++ Q3 p t.2 i d) := by
  have hm := Q6 hp
  have hlim := J7
  intro d
  induction d with
  | zero =>
    intro i b out hi ho
    rw [F5kE, Qc2 hp, J0, gF (by omega)]
    exact ⟨b, by simp [Q3]⟩
  | succ d ih =>
    intro i b out hi ho
    rw [F5kE, Qc2 hp, J0, gT (by omega), l7Of hp _ (by omega), J0, Q75 hp t hx hk _ _, J0, Q38, up1 i (by omega)]
    cases hh : Qc p t.2 (i : Int) with
    | true =>
      obtain ⟨b', g⟩ := ih (i + 1) (b && false) (out ++ [(i : Int)]) (by omega) (by simp; omega)
      exact ⟨b', by rw [cond_true, gT (by simp; omega), g]; simp⟩
    | false =>
      obtain ⟨b', g⟩ := ih (i + 1) b out (by omega) (by omega)
      exact ⟨b', by rw [cond_false, g]; simp⟩
theorem Q42 {p : DProgram} (hp : Sml p) (t : Bool × List DNode) (hx : WfN t.2) (hk : Q1 p.1 p.2.1 t.2 ≠ 0) : ∃ b, F1d p t = some (b, Q3 p t.2 0 (Q0 p)) := by
  obtain ⟨b, g⟩ := Qe7 hp t hx hk (Q0 p) 0 true [] (by omega) (by simp)
  have g' : F5k t p (true, []) 0 = _ := g
  exact ⟨b, by rw [F1dE, g']; rfl⟩
theorem Qee {p : DProgram} (hp : Sml p) (t : Bool × List DNode) (hx : WfN t.2) (hk : Q1 p.1 p.2.1 t.2 ≠ 0) :
    ∀ (d i : Nat) (b : Bool) (out : List Int), i + d = Q0 p → out.length ≤ i → ∃ b', F68 t p (b, out) (Q0 p : Int) (i : Int) = some (b', out ++ Q3 p t.2 i d) := by
  have hm := Q6 hp
  have hlim := J7
  intro d
  induction d with
  | zero =>
    intro i b out hi ho
    rw [F68E, gF (by omega)]
    exact ⟨b, by simp [Q3]⟩
  | succ d ih =>
    intro i b out hi ho
    rw [F68E, gT (by omega), Q52 hp _ (by omega), J0, (Q3k hp t hx hk _ _).2, J0, Q38, up1 i (by omega)]
    cases hh : Qc p t.2 (i : Int) with
    | true =>
      obtain ⟨b', g⟩ := ih (i + 1) (b && false) (out ++ [(i : Int)]) (by omega) (by simp; omega)
      exact ⟨b', by rw [cond_true, gT (by simp; omega), g]; simp⟩
    | false =>
      obtain ⟨b', g⟩ := ih (i + 1) b out (by omega) (by omega)
      exact ⟨b', by rw [cond_false, g]; simp⟩
theorem Q91 {p : DProgram} (hp : Sml p) (t : Bool × List DNode) (hx : WfN t.2) (hk : Q1 p.1 p.2.1 t.2 ≠ 0) : ∃ b, F1g p t = some (b, Q3 p t.2 0 (Q0 p)) := by
  obtain ⟨b, g⟩ := Qee hp t hx hk (Q0 p) 0 false [] (by omega) (by simp)
  have g' : F68 t p (false, []) (Q0 p : Int) 0 = _ := g
  exact ⟨b, by rw [F1gE, Q13 hp, J0, g']; rfl⟩
theorem Q97 {α ρ : Type} (l : List α) (q : α → Bool) (y : ρ) (F : Int → Option (ρ ⊕ Unit))
    (hs : ∀ (i : Nat) (h : i < l.length), F (i : Int) = bif q l[i] then some (.inl y) else F ((i + 1 : Nat) : Int)) (he : F (l.length : Int) = some (.inr ())) : F 0 = some (bif l.any q then .inl y else .inr ()) := by
  have := J4c l (fun x => !q x) (β := ρ ⊕ Unit) (.inr ()) (.inl y) F (fun i h => by rw [hs i h]; cases q l[i] <;> rfl) he
  rw [this, List.any_eq_not_all_not]
  cases (l.all fun x => !q x) <;> rfl
theorem Qaj (l : Bool × List Int) (n : Int) (hl : l.2.length ≤ 1048576) : F1f l n = some (l.2.any fun x => x == n) := by
  rw [F1fE, Q97 l.2 (fun x => x == n) true (fun i => F9p n l (l.2.length : Int) i) (fun i h => by
    rw [F9pE, gT (by omega), gT (by omega), gT (by omega), J2 l.2 _ i h, up1 i (by omega), J1]) (by rw [F9pE, gF (by omega)]), J0]
  cases (l.2.any fun x => x == n) <;> rfl
theorem Q5z {α : Type} (l : List α) (q : α → Bool) (F : Int → Option (Bool ⊕ Unit))
    (hs : ∀ (i : Nat) (h : i < l.length), F (i : Int) = bif !q l[i] then some (.inl false) else F ((i + 1 : Nat) : Int)) (he : F (l.length : Int) = some (.inr ())) : F 0 = some (if l.all q = true then .inr () else .inl false) := by
  have := J4c l q (β := Bool ⊕ Unit) (.inr ()) (.inl false) F (fun i h => by rw [hs i h]; cases q l[i] <;> rfl) he
  rw [this]
  cases l.all q <;> rfl
theorem Q7c (a b : Bool × List Int) (ha : a.2.length ≤ 1048576) (hb : b.2.length ≤ 1048576) : F1z a b = some (a.2.all fun x => b.2.any fun y => y == x) := by
  rw [F1zE, Q5z a.2 (fun x => b.2.any fun y => y == x) (fun i => Faf b a (a.2.length : Int) i) (fun i h => by
    rw [FafE, gT (by omega), gT (by omega), gT (by omega), J2 a.2 _ i h, up1 i (by omega), J1, Qaj b _ hb, J0]) (by rw [FafE, gF (by omega)]), J0]
  cases (a.2.all fun x => b.2.any fun y => y == x) <;> rfl
theorem Qc3 (a b : Bool × List Int) (ha : a.2.length ≤ 1048576) (hb : b.2.length ≤ 1048576) : F1i a b = some (a.2.any fun x => b.2.any fun y => y == x) := by
  rw [F1iE, Q97 a.2 (fun x => b.2.any fun y => y == x) true (fun i => F9l b a (a.2.length : Int) i) (fun i h => by
    rw [F9lE, gT (by omega), gT (by omega), gT (by omega), J2 a.2 _ i h, up1 i (by omega), J1, Qaj b _ hb, J0]) (by rw [F9lE, gF (by omega)]), J0]
  cases (a.2.any fun x => b.2.any fun y => y == x) <;> rfl
theorem Q7n {α : Type} [DecidableEq α] (a b : List α) (h : a.length = b.length) (F : Int → Option (Bool ⊕ Unit)) (hs : ∀ (i : Nat) (h1 : i < a.length) (h2 : i < b.length), F (i : Int) = bif !decide (a[i] = b[i]) then some (.inl false) else F ((i + 1 : Nat) : Int)) (he : F (a.length : Int) = some (.inr ())) :
    F 0 = some (if a = b then .inr () else .inl false) := by
  have key : ∀ (d i : Nat), i + d = a.length → F (i : Int) = some (if a.drop i = b.drop i then .inr () else .inl false) := by
    intro d
    induction d with
    | zero =>
      intro i hi
      obtain rfl : i = a.length := by omega
      rw [he, List.drop_length, h, List.drop_length, if_pos rfl]
    | succ d ih =>
      intro i hi
      have e1 : a.drop i = a[i] :: a.drop (i + 1) := K3 (by omega)
      have e2 : b.drop i = b[i] :: b.drop (i + 1) := K3 (by omega)
      rw [hs i (by omega) (by omega), ih (i + 1) (by omega), e1, e2]
      by_cases h1 : a[i] = b[i]
      · by_cases h2 : a.drop (i + 1) = b.drop (i + 1)
        · rw [if_pos h2, if_pos (by rw [h1, h2]), decide_eq_true h1]; rfl
        · rw [if_neg h2, if_neg (by rw [h1]; intro e; exact h2 (List.cons.inj e).2), decide_eq_true h1]; rfl
      · rw [if_neg (fun e => h1 (List.cons.inj e).1), decide_eq_false h1]; rfl
  have := key a.length 0 (by omega)
  simpa using this
theorem Qk {α : Type} (l : List α) (z : α) (i : Nat) : l.getD (Int.toNat (i : Int)) z = l.getD i z := by rw [K7]
theorem Qdd (n : Nat) (h : n ≤ 1099511627776) : ∃ b, F46 (n : Int) = some (b, []) := by
  have hlim := J7
  have e : IntKind.i64.wrap ((n : Int) - IntKind.i64.wrap (0 - 0)) = (n : Int) := by
    rw [show IntKind.i64.wrap (0 - 0) = 0 from wr (by omega), wr (by omega)]
    omega
  rw [F46E, e, gF (by omega)]
  by_cases h0 : n = 0
  · rw [gF (by omega)]
    exact ⟨_, rfl⟩
  · rw [gT (by omega), gT (by omega), gT (by omega), gT (by simp; omega), gT (by omega)]
    exact ⟨_, rfl⟩
theorem Q65 (s l : Bool × List (Bool × List DNode)) (d : Nat) : ∀ (i k : Nat), i + d = l.2.length → k + ((l.2.drop i).map fun x => x.2.length).sum ≤ 1099511627776 → l.2.length ≤ 1099511627776 →
    F8o s (k : Int) l (l.2.length : Int) (i : Int) = some ((k + ((l.2.drop i).map fun x => x.2.length).sum : Nat) : Int) := by
  induction d with
  | zero =>
    intro i k hi hk hl
    rw [F8oE, gF (by omega), Ka (by omega)]
    rfl
  | succ d ih =>
    intro i k hi hk hl
    have hlt : i < l.2.length := by omega
    rw [K3 hlt] at hk ⊢
    simp only [K14, List.sum_cons] at hk ⊢
    rw [F8oE, gT (by omega), gT (by omega), gT (by omega), J2 l.2 _ i hlt, show (k : Int) + (l.2[i].2.length : Int) = ((k + l.2[i].2.length : Nat) : Int) by omega, wr (by omega), gF (by omega), up1 i (by omega), J1, ih (i + 1) _ (by omega) (by omega) hl]
    congr 2
    omega
theorem Q66 (l : Bool × List (Bool × List DNode)) (d : Nat) : ∀ (i : Nat) (b : Bool) (out : List DNode), i + d = l.2.length → out.length + ((l.2.drop i).map fun x => x.2.length).sum ≤ 1099511627776 → l.2.length ≤ 1099511627776 →
    ∃ b', F8u (b, out) l (l.2.length : Int) (i : Int) = some (b', out ++ ((l.2.drop i).map fun x => x.2).flatten) := by
  have hlim := J7
  induction d with
  | zero =>
    intro i b out hi hk hl
    rw [F8uE, gF (by omega), Ka (by omega)]
    exact ⟨b, by simp⟩
  | succ d ih =>
    intro i b out hi hk hl
    have hlt : i < l.2.length := by omega
    rw [K3 hlt] at hk ⊢
    simp only [K14, List.sum_cons, List.flatten_cons] at hk ⊢
    rw [F8uE, gT (by omega), gT (by omega), gT (by omega), J2 l.2 _ i hlt, gT (by simp only; omega), up1 i (by omega), J1]
    obtain ⟨b', g⟩ := ih (i + 1) (b && l.2[i].2.isEmpty) (out ++ l.2[i].2) (by omega) (by rw [Kj]; omega) hl
    exact ⟨b', by rw [g]; simp⟩
theorem Qa4 (l : Bool × List (Bool × List DNode)) (h : (l.2.map fun x => x.2.length).sum ≤ 1099511627776) (hl : l.2.length ≤ 1099511627776) : ∃ b, F4 l = some (b, (l.2.map fun x => x.2).flatten) := by
  have h0 := Q65 l l l.2.length 0 0 (by omega) (by simpa using h) hl
  rw [Kg, K1g] at h0
  have h0' : F8o l 0 l (l.2.length : Int) 0 = _ := h0
  obtain ⟨b1, h1⟩ := Qdd _ h
  obtain ⟨b2, h2⟩ := Q66 l l.2.length 0 b1 [] (by omega) (by simpa using h) hl
  rw [Kg, Kv] at h2
  have h2' : F8u (b1, []) l (l.2.length : Int) 0 = _ := h2
  exact ⟨b2, by rw [F4E, h0', J0, h1, J0, h2', J0]⟩
theorem Q7b (wide vars : Int) (b : List DNode) : ∀ (a : List DNode) (st : List Int), Q1b wide vars (a ++ b) st = (Q1b wide vars a st).bind fun s => Q1b wide vars b s := by
  intro a
  induction a with
  | nil => intro st; rfl
  | cons x a ih =>
    intro st
    simp only [List.cons_append, Q1b]
    cases Q4g wide vars st x with
    | none => rfl
    | some s => exact ih s
/-- a good condition's value, and its negation's -/
theorem Qcy (wide : Int) (hw : 1 ≤ wide ∧ wide ≤ 62) (s : Bool × List Int) (hl : s.2.length ≤ 1000) (hs : ∀ v ∈ s.2, W5 wide v) (t : Bool × List DNode) (hx : WfN t.2) (hk : Q1 wide (s.2.length : Int) t.2 = 2) (f : Bool) :
    Fm wide (f, t.2 ++ [(19, 0)]) s = some (1 - valT wide s.2 t.2) ∧ (valT wide s.2 t.2 = 0 ∨ valT wide s.2 t.2 = 1) := by
  have hk0 : Q1 wide (s.2.length : Int) t.2 ≠ 0 := by omega
  obtain ⟨h1, h2, _, _⟩ := Q23 wide hw s hl hs t hx hk0
  obtain ⟨_, _, _, _, hl1, hl2⟩ := Qx hk0
  have hne : t.2 ≠ [] := by intro h; rw [h] at hl1; simp at hl1
  obtain ⟨hf, _⟩ := Q1f hk0 hne
  rw [hk] at hf
  have hf2 : Q1b wide (s.2.length : Int) (t.2 ++ [(19, 0)]) [] = some [2] := by
    rw [Q7b, hf]
    rfl
  obtain ⟨ks, h3, h4⟩ := Q5a wide hw s.2 hs t.2 hx hf t.2.length (K12 _)
  rw [List.drop_length] at h3
  simp only [Q1b, K0] at h3
  subst h3
  have hst : Q8 (vop wide s.2) t.2 t.2.length = [valT wide s.2 t.2] := by
    have hlen := h4.len
    unfold valT
    generalize Q8 (vop wide s.2) t.2 t.2.length = st at hlen
    match st, hlen with
    | [v], _ => rfl
  have hx2 : WfN (t.2 ++ [((19, 0) : DNode)]) := by
    intro x hx'
    rcases Kh.1 hx' with h | h
    · exact hx x h
    · rw [K18] at h
      subst h
      exact ⟨by decide, by decide⟩
  have hlast : Q8 (vop wide s.2) (t.2 ++ [((19, 0) : DNode)]) (t.2 ++ [((19, 0) : DNode)]).length = [1 - valT wide s.2 t.2] := by
    have e : (t.2 ++ [((19, 0) : DNode)]).length = t.2.length + 1 := by simp
    rw [e, Q15 _ _ _ (by omega)]
    have e2 : Q8 (vop wide s.2) (t.2 ++ [((19, 0) : DNode)]) t.2.length = Q8 (vop wide s.2) t.2 t.2.length := by
      unfold Q8
      rw [List.take_left' rfl, List.take_length]
    have e3 : (t.2 ++ [((19, 0) : DNode)])[t.2.length]'(by omega) = (19, 0) := by simp
    rw [e2, e3, hst]
    exact Q2f (vop wide s.2) [] [valT wide s.2 t.2] (19, 0) 1 rfl rfl
  obtain ⟨b', g⟩ := Q5x wide hw s hl hs (f, t.2 ++ [(19, 0)]) (by simp; omega) hx2 hf2 (t.2 ++ [((19, 0) : DNode)]).length 0 false (by simp) (by simp [Q16])
  rw [Q16, hlast] at g
  have g' : F3m wide s (false, []) (f, t.2 ++ [(19, 0)]) ((t.2 ++ [((19, 0) : DNode)]).length : Int) 0 = some (b', [1 - valT wide s.2 t.2]) := g
  refine ⟨by rw [FmE, g', J0, gT (by simp)]; rfl, ?_⟩
  have := h2 hk
  have := h1.1
  omega
theorem Qbq {p : DProgram} (hp : Sml p) (t : Bool × List DNode) (hx : WfN t.2) (hk : Q1 p.1 p.2.1 t.2 = 2) (f b : Bool) (s : List Int) (hl : (s.length : Int) = p.2.1) (hs : ∀ v ∈ s, W5 p.1 v) :
    Fo p (f, t.2 ++ [(19, 0)]) (b, s) = some (!Q4v p t.2 s) := by
  have h1 := hp.w1
  have h2 := hp.w2
  have h3 := hp.v2
  obtain ⟨h4, h5⟩ := Qcy p.1 (by omega) (b, s) (by simp only; omega) hs t hx (by rw [show (((b, s) : Bool × List Int).2.length : Int) = p.2.1 from hl]; exact hk) f
  rw [FoE, h4, J0, Q4v]
  rcases h5 with h5 | h5
  · have h5' : valT p.1 s t.2 = 0 := h5
    rw [h5']; rfl
  · have h5' : valT p.1 s t.2 = 1 := h5
    rw [h5']; rfl
theorem Q29 {p : DProgram} (hp : Sml p) (t : Bool × List DNode) (q : Int → Bool) (hq : ∀ no, Fo p t (false, Qb p no) = some (q no)) (l : Bool × List Int) (hl : l.2.length ≤ 1048576) (hn : ∀ x ∈ l.2, 0 ≤ x ∧ x < 1000) :
    F1l p t l = some (l.2.all q) := by
  have h := Ja l.2 (fun x => !q x) (fun i => F7r l (p, (t, ())) (l.2.length : Int) i) (fun i h => by
    rw [F7rE, gT (by omega), gT (by omega), gT (by omega), J2 l.2 _ i h, F54E, Q52 hp _ (hn _ (K4 h)), J0, hq, J0, J0, up1 i (by omega), J1]) (by rw [F7rE, gF (by omega)])
  have h2 : F51 l (p, (t, ())) = some (l.2.any fun x => !q x) := by
    rw [F51E, F3aE]
    exact Je h
  rw [F1lE, h2, J0, List.all_eq_not_any_not]
/-- Are the classes of a list Q9q in the order of their first states? -/
def Q20 : Int → List Int → Bool
  | _, [] => true
  | c, x :: l => decide (0 ≤ x ∧ x ≤ c) && Q20 (if x = c then c + 1 else c) l
/-- Is a view of a program's states good? -/
def Q7 (p : DProgram) (v : List Int) : Bool := Qp p && (decide ((v.length : Int) = Q0 p) && Q20 0 v)
theorem Qcn (l : List Int) : ∀ c : Int, Q20 c l = true → ∀ x ∈ l, 0 ≤ x ∧ x ≤ c + l.length := by
  induction l with
  | nil => intro c _ x hx; simp at hx
  | cons y l ih =>
    intro c h x hx
    simp only [Q20, K5, decide_eq_true_eq] at h
    simp only [Ks]
    rcases Kd.1 hx with rfl | hx
    · omega
    · have := ih _ h.2 x hx
      split at this <;> omega
theorem Qaf (n : Int) (v : DSight) (hl : v.2.length ≤ 1048576) (d : Nat) : ∀ (i : Nat) (c : Int), i + d = v.2.length → 0 ≤ c → c ≤ i → F6d n v c v (v.2.length : Int) (i : Int) = some (bif Q20 c (v.2.drop i) then .inr () else .inl false) := by
  induction d with
  | zero =>
    intro i c hi h0 hc
    rw [F6dE, gF (by omega), Ka (by omega)]
    rfl
  | succ d ih =>
    intro i c hi h0 hc
    have hlt : i < v.2.length := by omega
    rw [F6dE, gT (by omega), gT (by omega), gT (by omega), J2 v.2 _ i hlt, up1 i (by omega), J1, J1, K3 hlt, Q20]
    by_cases c3 : v.2[i] < 0
    · rw [gT c3, decide_eq_false (by omega)]
      rfl
    · rw [gF c3]
      by_cases c4 : v.2[i] > c
      · rw [gT c4, decide_eq_false (by omega)]
        rfl
      · rw [gF c4, decide_eq_true (by omega), K17]
        by_cases c2 : v.2[i] = c
        · rw [bT (by simpa using c2), if_pos c2, wr (by omega), ih (i + 1) _ (by omega) (by omega) (by omega)]
        · rw [bF (beqF c2), if_neg c2, ih (i + 1) _ (by omega) (by omega) (by omega)]
theorem Q5j (p : DProgram) (hs : Qa p) (v : DSight) (hl : v.2.length ≤ 1048576) : F7d p v = some (Q7 p v.2) := by
  rw [F7dE, Q45 p hs, J0, Q7]
  cases h0 : Qp p with
  | false => rfl
  | true =>
    have hp := Q94 h0
    have h := Qaf (Q0 p) v hl v.2.length 0 0 (by omega) (by omega) (by omega)
    have h' : F6d (Q0 p) v 0 v (v.2.length : Int) 0 = _ := h
    rw [cond_true, Q13 hp, J0, F2jE, h', J0, K17, Kg]
    cases Q20 0 v.2 with
    | false => rw [K1r]; rfl
    | true => rw [Bool.and_true]; rfl
theorem Q1i {p : DProgram} {v : List Int} (h : Q7 p v = true) : Sml p ∧ v.length = Q0 p ∧ ∀ x ∈ v, 0 ≤ x ∧ x ≤ 32 := by
  simp only [Q7, K5, decide_eq_true_eq] at h
  have hp := Q94 h.1
  have hm := Q6 hp
  exact ⟨hp, by omega, fun x hx => by have := Qcn v 0 h.2.2 x hx; omega⟩
/-- the number of classes of a view -/
def Q1s (v : List Int) : Int := v.foldl (fun m x => if x ≥ m then x + 1 else m) 0
theorem Qc6 (l : List Int) : ∀ m : Int, l.foldl (fun m x => if x ≥ m then x + 1 else m) (m + 1) = l.foldl (fun m x => if m < x then x else m) m + 1 := by
  induction l with
  | nil => intro m; rfl
  | cons x l ih =>
    intro m
    simp only [K1d]
    by_cases h : m < x
    · rw [if_pos (by omega), if_pos h, ih x]
    · rw [if_neg (by omega), if_neg h, ih m]
theorem Qbu (v : DSight) (hl : v.2.length ≤ 1048576) (hin : ∀ x ∈ v.2, 0 ≤ x ∧ x ≤ 32) : F26 v = some (Q1s v.2) := by
  have := Jx v.2 (fun m x => if x ≥ m then x + 1 else m) (fun m : Int => m) (fun m i => F6h m v (v.2.length : Int) i) (fun _ _ => True) (fun i h s _ => by
    have hx := hin _ (K4 h)
    refine ⟨?_, trivial⟩
    rw [F6hE, gT (by omega), gT (by omega), gT (by omega), J2 v.2 _ i h, up1 i (by omega), J1, J1, wr (by omega)]
    by_cases c : v.2[i] ≥ s
    · rw [gT c, if_pos c]
    · rw [gF c, if_neg c]) (fun s _ => by rw [F6hE, gF (by omega)]) 0 trivial
  rw [F26E, this, J0, Q1s]
theorem Q4c (v : DSight) (hl : v.2.length ≤ 1048576) (h0 : 0 < v.2.length) (hin : ∀ x ∈ v.2, 0 ≤ x ∧ x ≤ 32) : Fq v = some (Q1s v.2) := by
  obtain ⟨b, w⟩ := v
  match w, h0 with
  | x :: w, _ =>
    have key : ∀ (d i : Nat) (m : Int), i + d = (x :: w).length → 0 ≤ m → m ≤ 32 → ∃ r, F8w (b, x :: w) m (i : Int) = some r ∧ r = ((x :: w).drop i).foldl (fun m x => if m < x then x else m) m ∧ 0 ≤ r ∧ r ≤ 32 := by
      intro d
      induction d with
      | zero =>
        intro i m hi h0 h1
        rw [F8wE, gF (by simp only; omega), Ka (by omega)]
        exact ⟨m, rfl, rfl, h0, h1⟩
      | succ d ih =>
        intro i m hi h0 h1
        have hlt : i < (x :: w).length := by omega
        have hx := hin _ (K4 hlt)
        rw [F8wE, gT (by simp only; omega), gT (by omega), gT (by simp only; omega), J2 (x :: w) _ i hlt, up1 i (by simp only at hl; omega), J1, K3 hlt, K1d]
        by_cases c : m < (x :: w)[i]
        · rw [decide_eq_true c, cond_true, if_pos c]
          exact ih (i + 1) _ (by omega) (by omega) (by omega)
        · rw [decide_eq_false c, cond_false, if_neg c]
          exact ih (i + 1) _ (by omega) (by omega) (by omega)
    have hx := hin x Kp
    obtain ⟨r, e, e2, r0, r1⟩ := key w.length 1 x (by simp; omega) hx.1 hx.2
    have e' : F8w (b, x :: w) ((x :: w).getD 0 0) 1 = some r := e
    rw [FqE, F3cE, gF (by simp only [Ks]; omega), gT (by simp only [Ks]; omega), e', J0, J0, wr (by omega), Q1s, K1d, if_pos hx.1, Qc6, e2]
    rfl
theorem Q4l (v : List Int) (hin : ∀ x ∈ v, 0 ≤ x ∧ x ≤ 32) : 0 ≤ Q1s v ∧ Q1s v ≤ 33 := by
  have key : ∀ (l : List Int) (m : Int), (∀ x ∈ l, 0 ≤ x ∧ x ≤ 32) → 0 ≤ m → m ≤ 33 → 0 ≤ l.foldl (fun m x => if x ≥ m then x + 1 else m) m ∧ l.foldl (fun m x => if x ≥ m then x + 1 else m) m ≤ 33 := by
    intro l
    induction l with
    | nil => intro m _ h0 h1; exact ⟨h0, h1⟩
    | cons x l ih =>
      intro m hx h0 h1
      have h2 := hx x Kp
      rw [K1d]
      refine ih _ (fun y hy => hx y (K8 _ hy)) ?_ ?_ <;> split <;> omega
  exact key v 0 hin (by omega) (by omega)
theorem Qe9 : top 32 = 4294967295 := by decide
theorem Qdu {x y : Int} (hx : 0 ≤ x ∧ x < 65536) (hy : 0 ≤ y ∧ y < 65536) : F43 x y = some (0, x * y) := by
  have a1 : bShr .u64 x 32 = 0 := by rw [show (32 : Int) = ((32 : Nat) : Int) from rfl, Q26 .u64 x 32 (by decide)]; exact Int.ediv_eq_zero_of_lt hx.1 (by omega)
  have a2 : bShr .u64 y 32 = 0 := by rw [show (32 : Int) = ((32 : Nat) : Int) from rfl, Q26 .u64 y 32 (by decide)]; exact Int.ediv_eq_zero_of_lt hy.1 (by omega)
  have b1 : bAnd .u64 x 4294967295 = x := by rw [← Qe9, Q1c (by omega) ⟨hx.1, by omega⟩, Qe9, Int.emod_eq_of_lt hx.1 (by omega)]
  have b2 : bAnd .u64 y 4294967295 = y := by rw [← Qe9, Q1c (by omega) ⟨hy.1, by omega⟩, Qe9, Int.emod_eq_of_lt hy.1 (by omega)]
  have h0 : 0 ≤ x * y := Int.mul_nonneg hx.1 hy.1
  have h1 : x * y < 65536 * 65536 := by
    have := Int.mul_le_mul (show x ≤ 65535 by omega) (show y ≤ 65535 by omega) hy.1 (by omega)
    omega
  have w0 : IntKind.u64.wrap 0 = 0 := wru (by omega)
  have w1 : IntKind.u64.wrap (x * y) = x * y := wru (by omega)
  have s1 : bShr .u64 (x * y) 32 = 0 := by rw [show (32 : Int) = ((32 : Nat) : Int) from rfl, Q26 .u64 _ 32 (by decide)]; exact Int.ediv_eq_zero_of_lt h0 (by omega)
  have s0 : bShr .u64 0 32 = 0 := by decide
  have c0 : bAnd .u64 0 4294967295 = 0 := by decide
  rw [F43E, F59E, a1, a2, b1, b2, w1, s1]
  simp only [Int.zero_mul, Int.mul_zero, Int.add_zero, w0, s0, c0, J0]
theorem Qck {α : Type} (a b : Nat) (x : α) : List.replicate (a + b) x = List.replicate a x ++ List.replicate b x := by
  rw [List.replicate_append_replicate]
theorem Qbn (l : List Int) (m j : Nat) (h : j ≤ m) : (List.replicate m l).flatten.take (j * l.length) = (List.replicate j l).flatten := by
  obtain ⟨d, rfl⟩ := Nat.exists_eq_add_of_le h
  rw [Qck, List.flatten_append, List.take_left']
  simp
theorem Qcl (l : List Int) (c : Nat) (hl : 0 < l.length) (hc : c * l.length ≤ 10000000) (d : Nat) : ∀ (m : Nat) (b : Bool) (rest : List Int), m + d = c → 1 ≤ m → rest.length = d * l.length →
    F9o (b, (List.replicate m l).flatten ++ rest) ((m * l.length : Nat) : Int) = some (b, (List.replicate c l).flatten) := by
  induction d using Nat.strongRecOn with
  | _ d ih =>
    intro m b rest hm h1 hr
    have e0 : ((List.replicate m l).flatten).length = m * l.length := by simp
    have e1 : ((List.replicate m l).flatten ++ rest).length = c * l.length := by rw [Kj, e0, hr, ← hm, K16]
    rw [F9oE]
    simp only [e1]
    by_cases hd : d = 0
    · subst hd
      have : rest = [] := K1v (by simpa using hr)
      subst this
      obtain rfl : m = c := by omega
      rw [gF (by omega), K1k]
    · have hlt : m * l.length < c * l.length := (Nat.mul_lt_mul_right hl).2 (by omega)
      rw [gT (by omega), gT (by omega), gT (by omega), gT (by omega), gT (by omega), J1, K7, List.take_left' e0, Kg, e0]
      have hsub : c * l.length - m * l.length = d * l.length := by rw [← Nat.sub_mul]; congr 1; omega
      have hmin : min (m * l.length) (d * l.length) = (min m d) * l.length := by
        rcases Nat.le_total m d with h | h
        · rw [Nat.min_eq_left h, Nat.min_eq_left (Ko _ h)]
        · rw [Nat.min_eq_right h, Nat.min_eq_right (Ko _ h)]
      have htake : ((List.replicate m l).flatten).take (d * l.length) = (List.replicate (min m d) l).flatten := by
        rcases Nat.le_total m d with h | h
        · rw [Nat.min_eq_left h, K1i (by rw [e0]; exact Ko _ h)]
        · rw [Nat.min_eq_right h, Qbn l m d h]
      rw [hsub, hmin, htake, ← Kk, ← List.flatten_append, ← Qck, List.drop_append, Ka (by rw [e0]; exact Nat.le_add_right _ _), Kv, e0, show m * l.length + min m d * l.length - m * l.length = min m d * l.length by omega]
      have hadd : m * l.length + min m d * l.length = (m + min m d) * l.length := by rw [K16]
      have hle : (m + min m d) * l.length ≤ c * l.length := Ko _ (by omega)
      rw [wr (by omega), show ((m * l.length : Nat) : Int) + ((min m d * l.length : Nat) : Int) = (((m + min m d) * l.length : Nat) : Int) by rw [← hadd]; omega]
      exact ih (d - min m d) (by omega) (m + min m d) b (rest.drop (min m d * l.length)) (by omega) (by omega) (by rw [List.length_drop, hr, ← Nat.sub_mul])
theorem Qas (l : Bool × List Int) (c : Nat) (hl : 0 < l.2.length) (hl2 : l.2.length ≤ 1000) (h1 : 1 ≤ c) (hc : c ≤ 10000) : F3n l (c : Int) = some (false, (List.replicate c l.2).flatten) := by
  have hlim := J7
  have hm : c * l.2.length ≤ 10000 * 1000 := Nat.mul_le_mul hc hl2
  have hmul : (l.2.length : Int) * (c : Int) = ((c * l.2.length : Nat) : Int) := by rw [Int.natCast_mul, Int.mul_comm]
  have e := Qcl l.2 c hl (by omega) (c - 1) 1 false ((List.replicate (c * l.2.length) (0 : Int)).drop l.2.length) (by omega) (by omega) (by
    rw [List.length_drop, List.length_replicate, Nat.sub_mul, Nat.one_mul])
  have hle : l.2.length ≤ c * l.2.length := by
    have := Ko l.2.length h1
    omega
  have e1 : l.2.take (List.replicate (c * l.2.length) (0 : Int)).length = l.2 := by rw [List.length_replicate, K1i hle]
  have e2 : min l.2.length (List.replicate (c * l.2.length) (0 : Int)).length = l.2.length := by rw [List.length_replicate]; omega
  rw [F3nE, gF (by omega), wru (by omega), wru (by omega), Qdu (by omega) (by omega), J0]
  simp only [hmul]
  rw [gF (by omega), gF (by omega), wr (by omega), gT (by omega), gT (by omega), gT (by omega), gT (by omega), K7, e1, e2]
  have e' : F9o (false, l.2 ++ (List.replicate (c * l.2.length) (0 : Int)).drop l.2.length) (l.2.length : Int) = some (false, (List.replicate c l.2).flatten) := by
    simpa using e
  rw [e', J0]
theorem Qce (x y : DNode) : (!((x.1 == y.1) && (x.2 == y.2))) = !decide (x = y) := by
  congr 1
  rw [Bool.eq_iff_iff, K5, beq_iff_eq, beq_iff_eq, decide_eq_true_eq]
  exact (Prod.ext_iff).symm
theorem Qf1 (a b : Bool × List DNode) (ha : a.2.length ≤ 1048576) : F2u a b = some (decide (a.2 = b.2)) := by
  rw [F2uE]
  by_cases h : a.2.length = b.2.length
  · rw [bF (by simp [h]), Q7n a.2 b.2 h (fun i => F95 a b (a.2.length : Int) i) (fun i h1 h2 => by
      rw [F95E, gT (by omega), gT (by omega), gT (by omega), gT (by omega), gT (by omega), J2 a.2 _ i h1, J2 b.2 _ i h2, up1 i (by omega), J1, Qce]) (by rw [F95E, gF (by omega)]), J0]
    by_cases h2 : a.2 = b.2
    · simp [h2]
    · simp [h2]
  · rw [bT (by simp; omega), decide_eq_false (fun e => h (by rw [e]))]
theorem Qa5 (a b : Bool × List DNode) (ha : a.2.length ≤ 1048576) : F37 a b = some (decide (a.2 = b.2)) := by
  rw [F37E]
  by_cases h : a.2.length = b.2.length
  · rw [bF (by simp [h]), Q7n a.2 b.2 h (fun i => F8m a b (a.2.length : Int) i) (fun i h1 h2 => by
      rw [F8mE, gT (by omega), gT (by omega), gT (by omega), gT (by omega), gT (by omega), J2 a.2 _ i h1, J2 b.2 _ i h2, up1 i (by omega), J1, Qce]) (by rw [F8mE, gF (by omega)]), J0]
    by_cases h2 : a.2 = b.2
    · simp [h2]
    · simp [h2]
  · rw [bT (by simp; omega), decide_eq_false (fun e => h (by rw [e]))]
/-- a term with its variables put by terms -/
def putL (t : List DNode) (rows : List (List DNode)) : List DNode := t.flatMap fun n => if n.1 = 2 then rows.getD n.2.toNat [] else [n]
/-- what PutAll gives: the term, and whether it is good -/
def Q1m (wide vars : Int) (t : List DNode) (rows : List (List DNode)) : List DNode × Bool :=
  if Q1 wide vars t ≠ 0 ∧ (rows.length : Int) = vars ∧ (rows.all fun r => Q1 wide vars r == 1) = true ∧ Q1 wide vars (putL t rows) ≠ 0 then (putL t rows, true) else ([], false)
theorem Q9s {t : List DNode} {rows : List (List DNode)} (ht : WfN t) (h : ∀ r ∈ rows, WfN r) : WfN (putL t rows) := by
  intro x hx
  obtain ⟨n, hn, hx⟩ := List.mem_flatMap.1 hx
  split at hx
  · rw [K1] at hx
    by_cases hn : n.2.toNat < rows.length
    · rw [Kb hn] at hx
      exact h _ (K4 hn) x hx
    · rw [K1x (by omega)] at hx
      simp at hx
  · rw [K18] at hx
    rw [hx]
    exact ht n hn
theorem Q4k (a : List (Bool × List DNode)) (i : Nat) : (a.getD i (true, [])).2 = (a.map Prod.snd).getD i [] := by
  simp only [K1, K1o]
  cases a[i]? <;> rfl
theorem Qag {wide vars : Int} : ∀ (t : List DNode) (st r : List Int), Q1b wide vars t st = some r → ∀ x ∈ t, Q1r wide vars x.1 x.2 = true := by
  intro t
  induction t with
  | nil => intro st r _ x hx; simp at hx
  | cons y t ih =>
    intro st r h x hx
    simp only [Q1b, Ke] at h
    obtain ⟨s, h1, h2⟩ := h
    rcases Kd.1 hx with rfl | hx
    · exact (Q41 h1).2.1
    · exact ih s r h2 x hx
/-- the variables of a good term are the program's -/
theorem Qah {wide vars : Int} {t : List DNode} (h : Q1 wide vars t ≠ 0) : ∀ x ∈ t, x.1 = 2 → x.2 < vars := by
  intro x hx h2
  obtain ⟨_, _, _, _, hl1, _⟩ := Qx h
  have hne : t ≠ [] := by intro h; rw [h] at hl1; simp at hl1
  have := Qag t [] _ (Q1f h hne).1 x hx
  unfold Q1r at this
  rw [if_neg (by omega), if_pos h2, decide_eq_true_eq] at this
  exact this
theorem Q8w (wide vars : Int) (rows : Bool × List (Bool × List DNode)) (t : Bool × List DNode) (hl : t.2.length ≤ 48) (hr : ∀ r ∈ rows.2, r.2.length ≤ 48) (hx : ∀ x ∈ t.2, x.1 = 2 → 0 ≤ x.2 ∧ x.2 < (rows.2.length : Int)) (d : Nat) : ∀ (i : Nat) (b : Bool) (out : List DNode), i + d = t.2.length → out.length ≤ i * 48 →
    ∃ b', F5c wide vars rows (b, out) t (t.2.length : Int) (i : Int) = some (b', out ++ putL (t.2.drop i) (rows.2.map Prod.snd)) := by
  have hlim := J7
  induction d with
  | zero =>
    intro i b out hi ho
    rw [F5cE, gF (by omega), Ka (by omega)]
    exact ⟨b, by simp [putL]⟩
  | succ d ih =>
    intro i b out hi ho
    have hlt : i < t.2.length := by omega
    have hx1 := hx _ (K4 hlt)
    have e : putL (t.2[i] :: t.2.drop (i + 1)) (rows.2.map Prod.snd) = (if t.2[i].1 = 2 then (rows.2.map Prod.snd).getD t.2[i].2.toNat [] else [t.2[i]]) ++ putL (t.2.drop (i + 1)) (rows.2.map Prod.snd) := by simp only [putL, K13]
    rw [F5cE, gT (by omega), gT (by omega), gT (by omega), J2 t.2 _ i hlt, K3 hlt, e, up1 i (by omega)]
    by_cases c : t.2[i].1 = 2
    · obtain ⟨h0, h1⟩ := hx1 c
      have hlen : ((rows.2.map Prod.snd).getD t.2[i].2.toNat []).length ≤ 48 := by
        rw [← Q4k, K1, Kb (by omega)]
        exact hr _ (K4 _)
      rw [bT (by simpa using c), gT h0, gT h1, Q4k, gT (by simp only; omega), if_pos c, J1]
      obtain ⟨b', g⟩ := ih (i + 1) (b && ((rows.2.map Prod.snd).getD t.2[i].2.toNat []).isEmpty) (out ++ (rows.2.map Prod.snd).getD t.2[i].2.toNat []) (by omega) (by rw [Kj]; omega)
      exact ⟨b', by rw [g, Kk]⟩
    · rw [bF (beqF c), gT (by simp; omega), if_neg c, J1]
      obtain ⟨b', g⟩ := ih (i + 1) (b && false) (out ++ [t.2[i]]) (by omega) (by rw [Kj, K1z]; omega)
      exact ⟨b', by rw [g, Kk]⟩
theorem Q8f (wide vars : Int) (rows : Bool × List (Bool × List DNode)) (t : Bool × List DNode) (hl : t.2.length ≤ 48) (hr : ∀ r ∈ rows.2, r.2.length ≤ 48) (hx : ∀ x ∈ t.2, x.1 = 2 → 0 ≤ x.2 ∧ x.2 < (rows.2.length : Int)) (d : Nat) : ∀ (i : Nat) (b : Bool) (out : List DNode), i + d = t.2.length → out.length ≤ i * 48 →
    ∃ b', (b = false → b' = false) ∧ F5v rows wide vars (b, out) t (t.2.length : Int) (i : Int) = some (b', out ++ putL (t.2.drop i) (rows.2.map Prod.snd)) := by
  have hlim := J7
  induction d with
  | zero =>
    intro i b out hi ho
    rw [F5vE, gF (by omega), Ka (by omega)]
    exact ⟨b, id, by simp [putL]⟩
  | succ d ih =>
    intro i b out hi ho
    have hlt : i < t.2.length := by omega
    have hx1 := hx _ (K4 hlt)
    have e : putL (t.2[i] :: t.2.drop (i + 1)) (rows.2.map Prod.snd) = (if t.2[i].1 = 2 then (rows.2.map Prod.snd).getD t.2[i].2.toNat [] else [t.2[i]]) ++ putL (t.2.drop (i + 1)) (rows.2.map Prod.snd) := by simp only [putL, K13]
    rw [F5vE, gT (by omega), gT (by omega), gT (by omega), J2 t.2 _ i hlt, K3 hlt, e, up1 i (by omega)]
    by_cases c : t.2[i].1 = 2
    · obtain ⟨h0, h1⟩ := hx1 c
      have hlen : ((rows.2.map Prod.snd).getD t.2[i].2.toNat []).length ≤ 48 := by
        rw [← Q4k, K1, Kb (by omega)]
        exact hr _ (K4 _)
      rw [bT (by simpa using c), gT h0, gT h1, Q4k, gT (by simp only; omega), if_pos c, J1]
      obtain ⟨b', q, g⟩ := ih (i + 1) (b && ((rows.2.map Prod.snd).getD t.2[i].2.toNat []).isEmpty) (out ++ (rows.2.map Prod.snd).getD t.2[i].2.toNat []) (by omega) (by rw [Kj]; omega)
      exact ⟨b', fun h => q (by rw [h]; rfl), by rw [g, Kk]⟩
    · rw [bF (beqF c), gT (by simp; omega), if_neg c, J1]
      obtain ⟨b', q, g⟩ := ih (i + 1) (b && false) (out ++ [t.2[i]]) (by omega) (by rw [Kj, K1z]; omega)
      exact ⟨b', fun h => q (by rw [h]; rfl), by rw [g, Kk]⟩
theorem Q3r (wide vars : Int) (t : Bool × List DNode) (hx : WfN t.2) : F4x wide vars t = some (Q1 wide vars t.2 != 0) := by
  rw [F4xE, Q9k wide vars t hx, J0]
  congr 1
  by_cases h : Q1 wide vars t.2 = 0
  · rw [h]; rfl
  · have := Qbs h
    rw [decide_eq_true (by omega)]
    symm
    simpa using h
theorem Q6y (wide vars : Int) (rows : Bool × List (Bool × List DNode)) (hl : rows.2.length ≤ 1048576) : F6l rows (wide, (vars, ())) = some (rows.2.any fun r => !(Q1 wide vars r.2 == 1)) := by
  have h := Ja rows.2 (fun r => !(Q1 wide vars r.2 == 1)) (fun i => F94 rows (wide, (vars, ())) (rows.2.length : Int) i) (fun i h => by
    rw [F94E, gT (by omega), gT (by omega), gT (by omega), J2 rows.2 _ i h, F7aE, Q6g _ _ 1 _ (by decide), J0, J0, up1 i (by omega), J1]) (by rw [F94E, gF (by omega)])
  rw [F6lE, F3lE]
  exact Je h
theorem Q8s (wide vars : Int) (t : Bool × List DNode) (hx : WfN t.2) (rows rows2 : Bool × List (Bool × List DNode)) (hl : rows.2.length ≤ 1048576) (hr : ∀ r ∈ rows.2, WfN r.2) (he : rows.2.map Prod.snd = rows2.2.map Prod.snd) :
    ∃ f g, (g = true → (Q1m wide vars t.2 (rows.2.map Prod.snd)).1 = []) ∧ Fx wide vars t rows = some ((f, (Q1m wide vars t.2 (rows.2.map Prod.snd)).1), (Q1m wide vars t.2 (rows.2.map Prod.snd)).2) ∧ Fy wide vars t rows2 = some ((g, (Q1m wide vars t.2 (rows.2.map Prod.snd)).1), (Q1m wide vars t.2 (rows.2.map Prod.snd)).2) := by
  have hlen : rows.2.length = rows2.2.length := by have := congrArg List.length he; simpa using this
  have eall : (rows.2.all fun r => Q1 wide vars r.2 == 1) = (rows.2.map Prod.snd).all fun r => Q1 wide vars r == 1 := by rw [List.all_map]; rfl
  have eall2 : (rows2.2.any fun r => !(Q1 wide vars r.2 == 1)) = !(rows.2.map Prod.snd).all fun r => Q1 wide vars r == 1 := by
    rw [he, List.all_map, List.all_eq_not_any_not, Bool.not_not]; rfl
  have hloop := Q5z rows.2 (fun r => Q1 wide vars r.2 == 1) (fun i => F9k wide vars t rows rows (rows.2.length : Int) i) (fun i h => by
    rw [F9kE, gT (by omega), gT (by omega), gT (by omega), J2 rows.2 _ i h, Q9k wide vars _ (hr _ (K4 h)), J0, up1 i (by omega), J1]
    rfl) (by rw [F9kE, gF (by omega)])
  rw [FxE, FyE, Q3r wide vars t hx, Q6d, J0, J0, Q6y wide vars rows2 (by omega), hloop, eall, eall2]
  have bad : ¬ (Q1 wide vars t.2 ≠ 0 ∧ ((rows.2.map Prod.snd).length : Int) = vars ∧ ((rows.2.map Prod.snd).all fun r => Q1 wide vars r == 1) = true ∧ Q1 wide vars (putL t.2 (rows.2.map Prod.snd)) ≠ 0) → Q1m wide vars t.2 (rows.2.map Prod.snd) = ([], false) := fun h => by unfold Q1m; rw [if_neg h]
  by_cases c1 : Q1 wide vars t.2 = 0
  · rw [bad (by rintro ⟨h, _⟩; exact h c1), c1]
    exact ⟨true, true, fun _ => rfl, rfl, rfl⟩
  have e1 : (Q1 wide vars t.2 != 0) = true := by simpa using c1
  rw [e1, K6, cond_false, cond_false]
  by_cases c2 : (rows.2.length : Int) = vars
  · have e2 : ((rows.2.length : Int) != vars) = false := by simpa using c2
    have e3 : ((rows2.2.length : Int) != vars) = false := by rw [← hlen]; exact e2
    rw [e2, e3, cond_false, cond_false, J0, J0]
    cases h3 : (rows.2.map Prod.snd).all fun r => Q1 wide vars r == 1 with
    | false =>
      rw [bad (by rintro ⟨_, _, h, _⟩; rw [h3] at h; exact absurd h (by simp))]
      exact ⟨true, true, fun _ => rfl, rfl, rfl⟩
    | true =>
      have hr48 : ∀ r ∈ rows.2.map Prod.snd, r.length ≤ 48 := by
        intro r hm
        have := (K10.1 h3) r hm
        rw [beq_iff_eq] at this
        exact (Qx (by rw [this]; decide)).2.2.2.2.2
      have hv := Qah c1
      obtain ⟨_, _, _, _, hl1, hl2⟩ := Qx c1
      have hx1 : ∀ x ∈ t.2, x.1 = 2 → 0 ≤ x.2 ∧ x.2 < (rows.2.length : Int) := fun x h1 h2 => ⟨(hx x h1).1, by rw [c2]; exact hv x h1 h2⟩
      obtain ⟨b1, g1⟩ := Q8w wide vars rows t hl2 (fun r hm => hr48 _ (List.mem_map_of_mem hm)) hx1 t.2.length 0 true [] (by omega) (by simp)
      obtain ⟨b2, q2, g2⟩ := Q8f wide vars rows2 t hl2 (fun r hm => hr48 _ (by rw [he]; exact List.mem_map_of_mem hm)) (by rw [← hlen]; exact hx1) t.2.length 0 false [] (by omega) (by simp)
      rw [Kg, Kv] at g1 g2
      rw [← he] at g2
      have g1' : F5c wide vars rows (true, []) t (t.2.length : Int) 0 = _ := g1
      have g2' : F5v rows2 wide vars (false, []) t (t.2.length : Int) 0 = _ := g2
      have hwf : WfN (putL t.2 (rows.2.map Prod.snd)) := Q9s hx fun r hm => by
        obtain ⟨q, hq, rfl⟩ := Kt.1 hm
        exact hr q hq
      simp only [if_true, K6, cond_false, g1', g2', J0]
      rw [F5nE, F6nE, Q3r wide vars _ hwf, Q6d, J0, J0]
      by_cases c4 : Q1 wide vars (putL t.2 (rows.2.map Prod.snd)) = 0
      · rw [bad (by rintro ⟨_, _, _, h⟩; exact h c4)]
        simp only [c4]
        exact ⟨true, true, by simp, rfl, rfl⟩
      · have e5 : (Q1 wide vars (putL t.2 (rows.2.map Prod.snd)) != 0) = true := by simpa using c4
        have ep : Q1m wide vars t.2 (rows.2.map Prod.snd) = (putL t.2 (rows.2.map Prod.snd), true) := by unfold Q1m; rw [if_pos ⟨c1, by simpa using c2, h3, c4⟩]
        rw [ep]
        simp only [e5]
        exact ⟨b1, b2, fun h => by rw [q2 rfl] at h; exact absurd h (by simp), rfl, rfl⟩
  · have e2 : ((rows.2.length : Int) != vars) = true := by simpa using c2
    have e3 : ((rows2.2.length : Int) != vars) = true := by rw [← hlen]; exact e2
    rw [e2, e3, cond_true, cond_true, bad (by rintro ⟨_, h, _⟩; exact c2 (by simpa using h))]
    exact ⟨true, true, fun _ => rfl, rfl, rfl⟩
/-- the program's variables, each as a term -/
def Q3c (i d : Nat) : List (Bool × List DNode) := (List.range' i d).map fun v : Nat => (false, [(2, (v : Int))])
/-- what stands for each variable after a command's changes -/
def byR (base : List (Bool × List DNode)) (cs : List DChange) : List (Bool × List DNode) := cs.foldl (fun r c => r.set c.1.toNat c.2) base
theorem Qa1 (cs : List DChange) : ∀ base, (byR base cs).length = base.length := by
  induction cs with
  | nil => intro base; rfl
  | cons c cs ih => intro base; show (byR (base.set c.1.toNat c.2) cs).length = _; rw [ih, Ku]
theorem Qev (cs : List DChange) : ∀ base r, r ∈ byR base cs → r ∈ base ∨ ∃ c ∈ cs, r = c.2 := by
  induction cs with
  | nil => intro base r h; exact .inl h
  | cons c cs ih =>
    intro base r h
    rcases ih (base.set c.1.toNat c.2) r h with h | ⟨d, hd, e⟩
    · rcases List.mem_or_eq_of_mem_set h with h | h
      · exact .inl h
      · exact .inr ⟨c, Kp, h⟩
    · exact .inr ⟨d, K8 _ hd, e⟩
def Q5t (p : DProgram) (c : DCommand) : List (Bool × List DNode) := byR (Q3c 0 p.2.1.toNat) c.2.2
/-- what must hold ahead of a command for a condition to hold J93 it -/
def Q17 (p : DProgram) (c : DCommand) (t : List DNode) : List DNode × Bool := Q1m p.1 p.2.1 t ((Q5t p c).map Prod.snd)
theorem Q7p (p : DProgram) (k : Int) (t : Bool × List DNode) (n : Nat) (hn : p.2.1 = (n : Int)) (h4 : n ≤ 4) (d : Nat) : ∀ (i : Nat) (b : Bool) (out : List (Bool × List DNode)), i + d = n → out.length ≤ i →
    ∃ b', F7g k t p (b, out) (i : Int) = some (b', out ++ Q3c i d) := by
  have hlim := J7
  induction d with
  | zero =>
    intro i b out hi ho
    rw [F7gE, gF (by omega)]
    exact ⟨b, by simp [Q3c]⟩
  | succ d ih =>
    intro i b out hi ho
    rw [F7gE, gT (by omega), wru (by omega), gT (by simp; omega), up1 i (by omega), J1]
    obtain ⟨b', g⟩ := ih (i + 1) (b && false) (out ++ [(false, [(2, (i : Int))])]) (by omega) (by simp; omega)
    exact ⟨b', by rw [g]; simp [Q3c, K1a]⟩
theorem Q77 (p : DProgram) (k : Int) (t : Bool × List DNode) (n : Nat) (h4 : n ≤ 4) (d : Nat) : ∀ (i : Nat) (b : Bool) (out : List (Bool × List DNode)), i + d = n → out.length ≤ i →
    ∃ b', F87 k t p (b, out) (n : Int) (i : Int) = some (b', out ++ Q3c i d) := by
  have hlim := J7
  induction d with
  | zero =>
    intro i b out hi ho
    rw [F87E, gF (by omega)]
    exact ⟨b, by simp [Q3c]⟩
  | succ d ih =>
    intro i b out hi ho
    rw [F87E, gT (by omega), wru (by omega), gT (by simp; omega), up1 i (by omega), J1]
    obtain ⟨b', g⟩ := ih (i + 1) (b && false) (out ++ [(false, [(2, (i : Int))])]) (by omega) (by simp; omega)
    exact ⟨b', by rw [g]; simp [Q3c, K1a]⟩
theorem Qaw (p : DProgram) (t : Bool × List DNode) (b : Bool) (cs : Bool × List DChange) (hl : cs.2.length ≤ 1048576) (d : Nat) : ∀ (i : Nat) (out : List (Bool × List DNode)), i + d = cs.2.length → (∀ c ∈ cs.2, 0 ≤ c.1 ∧ c.1 < (out.length : Int)) →
    Fae t p (b, out) cs (cs.2.length : Int) (i : Int) = some (b, byR out (cs.2.drop i)) := by
  induction d with
  | zero =>
    intro i out hi ho
    rw [FaeE, gF (by omega), Ka (by omega)]
    rfl
  | succ d ih =>
    intro i out hi ho
    have hlt : i < cs.2.length := by omega
    have hx := ho _ (K4 hlt)
    rw [FaeE, gT (by omega), gT (by omega), gT (by omega), J2 cs.2 _ i hlt, gT hx.1, gT hx.2, up1 i (by omega), J1, ih (i + 1) _ (by omega) (by rw [Ku]; exact ho), K3 hlt]
    rfl
theorem Qac (p : DProgram) (t : Bool × List DNode) (b : Bool) (cs : Bool × List DChange) (hl : cs.2.length ≤ 1048576) (d : Nat) : ∀ (i : Nat) (out : List (Bool × List DNode)), i + d = cs.2.length → (∀ c ∈ cs.2, 0 ≤ c.1 ∧ c.1 < (out.length : Int)) →
    F9u t p (b, out) cs (cs.2.length : Int) (i : Int) = some (b, byR out (cs.2.drop i)) := by
  induction d with
  | zero =>
    intro i out hi ho
    rw [F9uE, gF (by omega), Ka (by omega)]
    rfl
  | succ d ih =>
    intro i out hi ho
    have hlt : i < cs.2.length := by omega
    have hx := ho _ (K4 hlt)
    rw [F9uE, gT (by omega), gT (by omega), gT (by omega), J2 cs.2 _ i hlt, gT hx.1, gT hx.2, up1 i (by omega), J1, ih (i + 1) _ (by omega) (by rw [Ku]; exact ho), K3 hlt]
    rfl
theorem Q7m {p : DProgram} {c : DCommand} (h4 : p.2.1 ≤ 4) (hc : WfCm c) : ∀ r ∈ Q5t p c, WfN r.2 := by
  intro r hr
  rcases Qev _ _ r hr with h | ⟨d, hd, e⟩
  · obtain ⟨v, hv, rfl⟩ := Kt.1 h
    have := (List.mem_range'_1.1 hv).2
    intro x hx
    rw [K18] at hx
    rw [hx]
    exact ⟨by simp only; omega, by simp only; omega⟩
  · rw [e]
    exact hc.2 d hd
theorem Q4n {p : DProgram} (hg : Q4 p = true) (hs : Qa p) (hw : WfP p) (t : Bool × List DNode) (hx : WfN t.2) (k : Nat) (hk : k < p.2.2.2.2.length) :
    ∃ f g, (g = true → (Q17 p p.2.2.2.2[k] t.2).1 = []) ∧ F15 p (k : Int) t = some ((f, (Q17 p p.2.2.2.2[k] t.2).1), (Q17 p p.2.2.2.2[k] t.2).2) ∧ F18 p (k : Int) t = some ((g, (Q17 p p.2.2.2.2[k] t.2).1), (Q17 p p.2.2.2.2[k] t.2).2) := by
  obtain ⟨h1, h2, h3, h4⟩ := Q11 hg
  obtain ⟨n, hn⟩ := Kf (show 0 ≤ p.2.1 by omega)
  have hmem := K4 hk
  have hc := Q3g hg _ hmem
  have hsm := hs.2.2 _ hmem
  have hwc := hw.2 _ hmem
  have hblen : (Q3c 0 n).length = n := by simp [Q3c]
  obtain ⟨b1, e1⟩ := Q7p p (k : Int) t n hn (by omega) n 0 true [] (by omega) (by simp)
  obtain ⟨b2, e2⟩ := Q77 p (k : Int) t n (by omega) n 0 false [] (by omega) (by simp)
  rw [Kv] at e1 e2
  have e1' : F7g (k : Int) t p (true, []) 0 = _ := e1
  have e2' : F87 (k : Int) t p (false, []) (n : Int) 0 = _ := e2
  have e3 := Qaw p t b1 p.2.2.2.2[k].2 hsm.2.1 _ 0 (Q3c 0 n) (K1g _) (fun c h => by rw [hblen, ← hn]; have := hc.2 c h; omega)
  have e4 := Qac p t b2 p.2.2.2.2[k].2 hsm.2.1 _ 0 (Q3c 0 n) (K1g _) (fun c h => by rw [hblen, ← hn]; have := hc.2 c h; omega)
  rw [Kg] at e3 e4
  have e3' : Fae t p (b1, Q3c 0 n) p.2.2.2.2[k].2 (p.2.2.2.2[k].2.2.length : Int) 0 = _ := e3
  have e4' : F9u t p (b2, Q3c 0 n) p.2.2.2.2[k].2 (p.2.2.2.2[k].2.2.length : Int) 0 = _ := e4
  have er : byR (Q3c 0 n) p.2.2.2.2[k].2.2 = Q5t p p.2.2.2.2[k] := by rw [Q5t, hn, K7]
  rw [er] at e3' e4'
  obtain ⟨f, g, q0, q1, q2⟩ := Q8s p.1 p.2.1 t hx (b1, Q5t p p.2.2.2.2[k]) (b2, Q5t p p.2.2.2.2[k]) (by rw [← er, Qa1, hblen]; omega) (Q7m h4 hwc) rfl
  refine ⟨f, g, q0, ?_, ?_⟩
  · rw [F15E, e1', J0, gT (by omega), gT (by omega), J2 _ _ k hk]
    simp only [e3', J0, q1]
    rfl
  · rw [F18E, hn, e2', J0, gT (by omega), gT (by omega), J2 _ _ k hk]
    simp only [e4', J0, ← hn, q2]
    rfl
def Q1l (p : DProgram) (preds : List (List DNode)) : Bool := decide ((preds.length : Int) ≤ 8) && preds.all fun t => Q1 p.1 p.2.1 t == 2
theorem Qdl (p : DProgram) (preds : Bool × List (Bool × List DNode)) (hx : ∀ t ∈ preds.2, WfN t.2) : F2t p preds = some (Q1l p (preds.2.map Prod.snd)) := by
  rw [F2tE, Q1l, Ky, List.all_map]
  by_cases c : (preds.2.length : Int) > 8
  · rw [gT c, decide_eq_false (by omega), Bool.false_and]
  · rw [gF c, decide_eq_true (by omega), K17, Q5z preds.2 (fun t => Q1 p.1 p.2.1 t.2 == 2) (fun i => F8f p preds (preds.2.length : Int) i) (fun i h => by
      rw [F8fE, gT (by omega), gT (by omega), gT (by omega), J2 preds.2 _ i h, Q9m p _ (hx _ (K4 h)), J0, up1 i (by omega), J1]) (by rw [F8fE, gF (by omega)]), J0]
    show _ = some (preds.2.all fun t => Q1 p.1 p.2.1 t.2 == 2)
    cases preds.2.all fun t => Q1 p.1 p.2.1 t.2 == 2 <;> rfl
theorem Q98 (p : DProgram) (preds : Bool × List (Bool × List DNode)) (least : Int) : F3v p preds least = some (decide ((preds.2.length : Int) ≥ least) && Q1l p (preds.2.map Prod.snd)) := by
  rw [F3vE, Q1l, Ky, List.all_map]
  by_cases c0 : (preds.2.length : Int) ≥ least
  · by_cases c : (preds.2.length : Int) ≤ 8
    · have h := Ja preds.2 (fun t => !(Q1 p.1 p.2.1 t.2 == 2)) (fun i => Fa4 preds (p, ()) (preds.2.length : Int) i) (fun i h => by
        rw [Fa4E, gT (by omega), gT (by omega), gT (by omega), J2 preds.2 _ i h, F6bE, Q2c, J0, J0, up1 i (by omega), J1]) (by rw [Fa4E, gF (by omega)])
      have h2 : F66 preds (p, ()) = some (preds.2.any fun t => !(Q1 p.1 p.2.1 t.2 == 2)) := by
        rw [F66E, F2wE]
        exact Je h
      rw [gT c0, gT c, h2, J0, decide_eq_true c0, decide_eq_true c, K17, K17]
      show _ = some (preds.2.all fun t => Q1 p.1 p.2.1 t.2 == 2)
      rw [List.all_eq_not_any_not]
    · rw [gT c0, gF c, decide_eq_false c, Bool.false_and, K1r]
  · rw [gF c0, decide_eq_false c0, Bool.false_and]
def Qv (o : List (List DNode)) : Prop := o.length ≤ 40 ∧ ∀ r ∈ o, r.length ≤ 48
/-- a term put to others, unless it is there or there are enough -/
def addT (o : List (List DNode)) (t : List DNode) : List (List DNode) := if (o.any fun r => decide (r = t)) = true then o else if o.length = 40 then o else o ++ [t]
theorem Q7y {o : List (List DNode)} {t : List DNode} (h : Qv o) (ht : t.length ≤ 48) : Qv (addT o t) := by
  unfold addT
  split
  · exact h
  · split
    · exact h
    · refine ⟨by have := h.1; simp; omega, fun r hr => ?_⟩
      rcases Kh.1 hr with hr | hr
      · exact h.2 r hr
      · rw [K18] at hr
        rw [hr]
        exact ht
theorem Q2t {R : List (Bool × List DNode)} (h : Qv (R.map Prod.snd)) : R.length ≤ 40 ∧ ∀ r ∈ R, r.2.length ≤ 48 :=
  ⟨by simpa using h.1, fun r hr => h.2 _ (List.mem_map_of_mem hr)⟩
theorem Qb5 (R : List (Bool × List DNode)) (t : List DNode) : (R.any fun r => decide (r.2 = t)) = (R.map Prod.snd).any fun r => decide (r = t) := by rw [List.any_map]; rfl
theorem Qbx (t : Bool × List DNode) (b : Bool) (R : List (Bool × List DNode)) (hR : Qv (R.map Prod.snd)) (d : Nat) : ∀ i : Nat, i + d = R.length →
    Fah (b, R) t (R.length : Int) (i : Int) = some (if ((R.drop i).any fun r => decide (r.2 = t.2)) = true then .inl (b, R) else .inr (b, R)) := by
  obtain ⟨h1, h2⟩ := Q2t hR
  induction d with
  | zero =>
    intro i hi
    rw [FahE, gF (by omega), Ka (by omega)]
    rfl
  | succ d ih =>
    intro i hi
    have hlt : i < R.length := by omega
    have hset : R.set i (R[i].1, R[i].2) = R := List.set_getElem_self hlt
    rw [FahE, gT (by omega), gT (by omega), gT (by simp only; omega), J2 R _ i hlt, K7, hset, Qf1 _ _ (by have := h2 _ (K4 hlt); simp only; omega), J0, up1 i (by omega), J1, ih (i + 1) (by omega), K3 hlt, List.any_cons]
    by_cases c : R[i].2 = t.2
    · simp [c]
    · simp [c]
theorem Qei (b : Bool) (R : List (Bool × List DNode)) (t : Bool × List DNode) (hR : Qv (R.map Prod.snd)) (ht : t.2.length ≤ 48) : ∃ b' R', R'.map Prod.snd = addT (R.map Prod.snd) t.2 ∧ F2e (b, R) t = some (b', R') := by
  have hlim := J7
  obtain ⟨h1, h2⟩ := Q2t hR
  have h := Qbx t b R hR R.length 0 (by omega)
  have h' : Fah (b, R) t (R.length : Int) 0 = _ := h
  rw [Kg, Qb5] at h'
  rw [F2eE, h']
  unfold addT
  by_cases c : ((R.map Prod.snd).any fun r => decide (r = t.2)) = true
  · rw [if_pos c, if_pos c]
    exact ⟨b, R, rfl, rfl⟩
  · rw [if_neg c, if_neg c, J0]
    dsimp only
    by_cases c2 : R.length = 40
    · rw [if_pos (by simpa using c2), bT (by simp [c2])]
      exact ⟨b, R, rfl, rfl⟩
    · rw [if_neg (by simpa using c2), bF (beqF (by omega)), gT (by simp; omega), gT (by simp; omega)]
      exact ⟨_, _, by simp, rfl⟩
theorem Q6z (R : Bool × List (Bool × List DNode)) (t : Bool × List DNode) (hR : Qv (R.2.map Prod.snd)) : F5d R (t, ()) = some (R.2.any fun r => decide (r.2 = t.2)) := by
  obtain ⟨h1, h2⟩ := Q2t hR
  have h := Ja R.2 (fun r => decide (r.2 = t.2)) (fun i => F9f R (t, ()) (R.2.length : Int) i) (fun i h => by
    rw [F9fE, gT (by omega), gT (by omega), gT (by omega), J2 R.2 _ i h, F76E, J1, Qa5 _ _ (by have := h2 _ (K4 h); omega), J0, up1 i (by omega), J1]) (by rw [F9fE, gF (by omega)])
  rw [F5dE, F2lE]
  exact Je h
theorem Qeo (b : Bool) (R : List (Bool × List DNode)) (t : Bool × List DNode) (hR : Qv (R.map Prod.snd)) (ht : t.2.length ≤ 48) (hn : t.1 = true → t.2 = []) : ∃ b' R', R'.map Prod.snd = addT (R.map Prod.snd) t.2 ∧ F3x t (b, R) = some (b', R') := by
  have hlim := J7
  obtain ⟨h1, h2⟩ := Q2t hR
  rw [F3xE, Q6z (b, R) t hR, J0, Qb5]
  unfold addT
  by_cases c2 : R.length = 40
  · rw [gF (by simp only; omega)]
    refine ⟨b, R, ?_, rfl⟩
    split
    · rfl
    · rw [if_pos (by simpa using c2)]
  · rw [gT (by simp only; omega), if_neg (show ¬ (R.map Prod.snd).length = 40 by simpa using c2)]
    cases c : (R.map Prod.snd).any fun r => decide (r = t.2) with
    | true => exact ⟨b, R, rfl, rfl⟩
    | false =>
      rw [Bool.not_false, cond_true, F5rE, if_neg (by simp)]
      obtain ⟨t1, t2⟩ := t
      cases t1 with
      | true =>
        rw [cond_true, J0, gT (by simp; omega)]
        exact ⟨_, _, by simp [show t2 = [] from hn rfl], rfl⟩
      | false =>
        rw [cond_false, gT (by simp; simp at ht; omega), J0, gT (by simp; omega)]
        exact ⟨_, _, by simp, rfl⟩
theorem Q1z {α : Type} (l : List α) (f : List (List DNode) → α → List (List DNode)) (F : Bool × List (Bool × List DNode) → Int → Option (Bool × List (Bool × List DNode)))
    (hok : ∀ o a, Qv o → a ∈ l → Qv (f o a))
    (hs : ∀ (i : Nat) (h : i < l.length) (b : Bool) (R : List (Bool × List DNode)), Qv (R.map Prod.snd) → ∃ b' R', R'.map Prod.snd = f (R.map Prod.snd) l[i] ∧ F (b, R) (i : Int) = F (b', R') ((i + 1 : Nat) : Int))
    (he : ∀ b R, F (b, R) (l.length : Int) = some (b, R)) (b : Bool) (R : List (Bool × List DNode)) (hR : Qv (R.map Prod.snd)) : ∃ b' R', R'.map Prod.snd = l.foldl f (R.map Prod.snd) ∧ Qv (R'.map Prod.snd) ∧ F (b, R) 0 = some (b', R') := by
  have key : ∀ (d i : Nat) (b : Bool) (R : List (Bool × List DNode)), i + d = l.length → Qv (R.map Prod.snd) → ∃ b' R', R'.map Prod.snd = (l.drop i).foldl f (R.map Prod.snd) ∧ Qv (R'.map Prod.snd) ∧ F (b, R) (i : Int) = some (b', R') := by
    intro d
    induction d with
    | zero =>
      intro i b R hi hR
      obtain rfl : i = l.length := by omega
      exact ⟨b, R, by simp, hR, he b R⟩
    | succ d ih =>
      intro i b R hi hR
      have hlt : i < l.length := by omega
      obtain ⟨b1, R1, h1, h2⟩ := hs i hlt b R hR
      have hR1 : Qv (R1.map Prod.snd) := by rw [h1]; exact hok _ _ hR (K4 hlt)
      obtain ⟨b2, R2, h3, h4, h5⟩ := ih (i + 1) b1 R1 (by omega) hR1
      exact ⟨b2, R2, by rw [h3, K3 hlt, K1d, h1], h4, by rw [h2, h5]⟩
  have := key l.length 0 b R (by omega) hR
  simpa using this
/-- the terms to try: commands' conditions, and what must hold ahead of commands -/
def Qz (p : DProgram) (t : List DNode) (o : List (List DNode)) (c : DCommand) : List (List DNode) := if (Q17 p c t).2 = true then addT o (Q17 p c t).1 else o
def Q5w (p : DProgram) (preds : List (List DNode)) : List (List DNode) :=
  preds.foldl (fun o t => p.2.2.2.2.foldl (Qz p t) o) (p.2.2.2.2.foldl (fun o c => addT o c.1.2) [])
theorem Q32 (p : DProgram) (c : DCommand) (t : List DNode) : (Q17 p c t).1.length ≤ 48 := by
  unfold Q17 Q1m
  split
  · rename_i h
    exact (Qx h.2.2.2).2.2.2.2.2
  · simp
theorem Q1v (p : DProgram) (t : List DNode) (o : List (List DNode)) (c : DCommand) (h : Qv o) : Qv (Qz p t o c) := by
  unfold Qz
  split
  · exact Q7y h (Q32 p c t)
  · exact h
theorem Q9g {α : Type} (f : List (List DNode) → α → List (List DNode)) (l : List α) (hf : ∀ o a, Qv o → a ∈ l → Qv (f o a)) : ∀ o, Qv o → Qv (l.foldl f o) := by
  induction l with
  | nil => intro o h; exact h
  | cons x l ih => intro o h; exact ih (fun o a h1 h2 => hf o a h1 (K8 _ h2)) _ (hf o x h Kp)
theorem Qbb {p : DProgram} (hg : Q4 p = true) : ∀ c ∈ p.2.2.2.2, c.1.2.length ≤ 48 := fun c hc => (Qx (by rw [(Q3g hg c hc).1]; decide)).2.2.2.2.2
theorem Qdr {p : DProgram} (hg : Q4 p = true) (hs : Qa p) (hw : WfP p) (preds : Bool × List (Bool × List DNode)) (hl : preds.2.length ≤ 1048576) (hx : ∀ t ∈ preds.2, WfN t.2) :
    ∃ b R, R.map Prod.snd = Q5w p (preds.2.map Prod.snd) ∧ Qv (R.map Prod.snd) ∧ Fk p preds = some (b, R) := by
  have hcl := Qbb hg
  have hl2 := hs.2.1
  obtain ⟨b1, R1, q1, q2, q3⟩ := Q1z p.2.2.2.2 (fun o c => addT o c.1.2) (fun s i => F8c preds p s p.2.2.2 (p.2.2.2.2.length : Int) i) (fun o c h hc => Q7y h (hcl c hc)) (fun i h b R hR => by
    obtain ⟨b', R', r1, r2⟩ := Qei b R p.2.2.2.2[i].1 hR (hcl _ (K4 h))
    exact ⟨b', R', r1, by rw [F8cE, gT (by omega), gT (by omega), gT (by omega), J2 _ _ i h, r2, J0, up1 i (by omega), J1]⟩) (fun b R => by rw [F8cE, gF (by omega)]) true [] ⟨by simp, by simp⟩
  obtain ⟨b2, R2, r1, r2, r3⟩ := Q1z preds.2 (fun o t => p.2.2.2.2.foldl (Qz p t.2) o) (fun s i => F91 p s preds (preds.2.length : Int) i) (fun o t h _ => Q9g _ _ (fun o c h _ => Q1v p t.2 o c h) o h) (fun i h b R hR => by
    obtain ⟨b', R', t1, t2, t3⟩ := Q1z p.2.2.2.2 (Qz p preds.2[i].2) (fun s j => F6t p s preds.2[i] preds (preds.2.length : Int) (i : Int) (p.2.2.2.2.length : Int) j) (fun o c h _ => Q1v p _ o c h) (fun j hj b R hR => by
      obtain ⟨f, g, _, u1, _⟩ := Q4n hg hs hw preds.2[i] (hx _ (K4 h)) j hj
      rw [F6tE, gT (by omega), u1, J0, up1 j (by omega)]
      dsimp only
      unfold Qz
      cases hb : (Q17 p p.2.2.2.2[j] preds.2[i].2).2 with
      | false => exact ⟨b, R, rfl, by rw [cond_false, J1]⟩
      | true =>
        obtain ⟨b', R', v1, v2⟩ := Qei b R (f, (Q17 p p.2.2.2.2[j] preds.2[i].2).1) hR (Q32 _ _ _)
        exact ⟨b', R', v1, by rw [cond_true, v2, J0, J1]⟩) (fun b R => by rw [F6tE, gF (by omega)]) b R hR
    exact ⟨b', R', t1, by rw [F91E, gT (by omega), gT (by omega), gT (by omega), J2 _ _ i h, t3, J0, up1 i (by omega), J1]⟩) (fun b R => by rw [F91E, gF (by omega)]) b1 R1 q2
  refine ⟨b2, R2, ?_, r2, by rw [FkE, q3, J0, r3, J0]⟩
  rw [r1, q1, Q5w, List.foldl_map]
  rfl
theorem Qea {p : DProgram} (hg : Q4 p = true) (hs : Qa p) (hw : WfP p) (hn : ∀ c ∈ p.2.2.2.2, c.1.1 = true → c.1.2 = []) (preds : Bool × List (Bool × List DNode)) (hl : preds.2.length ≤ 1048576) (hx : ∀ t ∈ preds.2, WfN t.2) :
    ∃ b R, R.map Prod.snd = Q5w p (preds.2.map Prod.snd) ∧ Qv (R.map Prod.snd) ∧ F5 p preds = some (b, R) := by
  have hcl := Qbb hg
  have hl2 := hs.2.1
  obtain ⟨b1, R1, q1, q2, q3⟩ := Q1z p.2.2.2.2 (fun o c => addT o c.1.2) (fun s i => F7l preds p s p.2.2.2 (p.2.2.2.2.length : Int) i) (fun o c h hc => Q7y h (hcl c hc)) (fun i h b R hR => by
    obtain ⟨b', R', r1, r2⟩ := Qeo b R p.2.2.2.2[i].1 hR (hcl _ (K4 h)) (hn _ (K4 h))
    exact ⟨b', R', r1, by rw [F7lE, gT (by omega), gT (by omega), gT (by omega), J2 _ _ i h, r2, J0, up1 i (by omega), J1]⟩) (fun b R => by rw [F7lE, gF (by omega)]) false [] ⟨by simp, by simp⟩
  obtain ⟨b2, R2, r1, r2, r3⟩ := Q1z preds.2 (fun o t => p.2.2.2.2.foldl (Qz p t.2) o) (fun s i => F8q p s preds (preds.2.length : Int) i) (fun o t h _ => Q9g _ _ (fun o c h _ => Q1v p t.2 o c h) o h) (fun i h b R hR => by
    obtain ⟨b', R', t1, t2, t3⟩ := Q1z p.2.2.2.2 (Qz p preds.2[i].2) (fun s j => F79 p s preds.2[i] preds (preds.2.length : Int) (i : Int) (p.2.2.2.2.length : Int) j) (fun o c h _ => Q1v p _ o c h) (fun j hj b R hR => by
      obtain ⟨f, g, u0, _, u1⟩ := Q4n hg hs hw preds.2[i] (hx _ (K4 h)) j hj
      rw [F79E, gT (by omega), u1, J0, up1 j (by omega)]
      dsimp only
      unfold Qz
      cases hb : (Q17 p p.2.2.2.2[j] preds.2[i].2).2 with
      | false => exact ⟨b, R, rfl, by rw [cond_false, J1]⟩
      | true =>
        obtain ⟨b', R', v1, v2⟩ := Qeo b R (g, (Q17 p p.2.2.2.2[j] preds.2[i].2).1) hR (Q32 _ _ _) u0
        exact ⟨b', R', v1, by rw [cond_true, v2, J0, J1]⟩) (fun b R => by rw [F79E, gF (by omega)]) b R hR
    exact ⟨b', R', t1, by rw [F8qE, gT (by omega), gT (by omega), gT (by omega), J2 _ _ i h, t3, J0, up1 i (by omega), J1]⟩) (fun b R => by rw [F8qE, gF (by omega)]) b1 R1 q2
  refine ⟨b2, R2, ?_, r2, by rw [F5E, q3, J0, r3, J0]⟩
  rw [r1, q1, Q5w, List.foldl_map]
  rfl
/-- a number put into its place in a rising list, unless it is there -/
def insL (n : Int) : List Int → List Int
  | [] => [n]
  | x :: l => if x < n then x :: insL n l else if x = n then x :: l else n :: x :: l
def Qw (l : List Int) : Prop := l.Pairwise (· < ·)
theorem Q9h (n : Int) (l : List Int) : ∀ x, x ∈ insL n l ↔ x = n ∨ x ∈ l := by
  induction l with
  | nil => intro x; simp [insL]
  | cons y l ih =>
    intro x
    unfold insL
    split
    · rw [Kd, ih, Kd]
      constructor
      · rintro (h | h | h)
        · exact .inr (.inl h)
        · exact .inl h
        · exact .inr (.inr h)
      · rintro (h | h | h)
        · exact .inr (.inl h)
        · exact .inl h
        · exact .inr (.inr h)
    · split
      · rename_i h1 h2
        constructor
        · exact .inr
        · rintro (h | h)
          · rw [h, ← h2]; exact Kp
          · exact h
      · rw [Kd]
theorem Q8g (n : Int) (l : List Int) (h : Qw l) : Qw (insL n l) := by
  induction l with
  | nil => exact List.pairwise_singleton _ _
  | cons y l ih =>
    obtain ⟨h1, h2⟩ := List.pairwise_cons.1 h
    unfold insL
    split
    · rename_i c
      refine List.pairwise_cons.2 ⟨fun x hx => ?_, ih h2⟩
      rcases (Q9h n l x).1 hx with rfl | hx
      · exact c
      · exact h1 x hx
    · split
      · exact h
      · rename_i c1 c2
        refine List.pairwise_cons.2 ⟨fun x hx => ?_, h⟩
        rcases Kd.1 hx with rfl | hx
        · omega
        · have := h1 x hx
          omega
/-- rising lists with the same members are the same -/
theorem Q44 : ∀ (a b : List Int), Qw a → Qw b → (∀ x, x ∈ a ↔ x ∈ b) → a = b := by
  intro a
  induction a with
  | nil =>
    intro b _ _ h
    cases b with
    | nil => rfl
    | cons y b => exact absurd ((h y).2 Kp) (by simp)
  | cons x a ih =>
    intro b ha hb h
    cases b with
    | nil => exact absurd ((h x).1 Kp) (by simp)
    | cons y b =>
      obtain ⟨a1, a2⟩ := List.pairwise_cons.1 ha
      obtain ⟨b1, b2⟩ := List.pairwise_cons.1 hb
      have hxy : x = y := by
        have h1 := (h x).1 Kp
        have h2 := (h y).2 Kp
        rcases Kd.1 h1 with e | h1
        · exact e
        · rcases Kd.1 h2 with e | h2
          · exact e.symm
          · have := b1 x h1
            have := a1 y h2
            omega
      subst hxy
      rw [ih b a2 b2 (fun z => ?_)]
      constructor
      · intro hz
        rcases Kd.1 ((h z).1 (K8 _ hz)) with e | hz2
        · have := a1 z hz
          omega
        · exact hz2
      · intro hz
        rcases Kd.1 ((h z).2 (K8 _ hz)) with e | hz2
        · have := b1 z hz
          omega
        · exact hz2
/-- the numbers of a list, rising, each once -/
def Qq (l : List Int) : List Int := l.foldl (fun o n => insL n o) []
theorem Q72 (l : List Int) : ∀ o, Qw o → Qw (l.foldl (fun o n => insL n o) o) ∧ ∀ x, x ∈ l.foldl (fun o n => insL n o) o ↔ x ∈ o ∨ x ∈ l := by
  induction l with
  | nil => intro o h; exact ⟨h, by simp⟩
  | cons n l ih =>
    intro o h
    obtain ⟨q1, q2⟩ := ih (insL n o) (Q8g n o h)
    refine ⟨q1, fun x => ?_⟩
    rw [K1d, q2, Q9h, Kd]
    constructor
    · rintro ((h | h) | h)
      · exact .inr (.inl h)
      · exact .inl h
      · exact .inr (.inr h)
    · rintro (h | h | h)
      · exact .inl (.inr h)
      · exact .inl (.inl h)
      · exact .inr h
theorem Qo (l : List Int) : Qw (Qq l) := (Q72 l [] List.Pairwise.nil).1
theorem Qh (l : List Int) : ∀ x, x ∈ Qq l ↔ x ∈ l := by
  intro x
  rw [Qq, (Q72 l [] List.Pairwise.nil).2]
  simp
/-- a rising list of numbers from 0 up to n is the numbers below n that are in it -/
theorem Q2d (a : List Int) (h : Qw a) (n : Nat) (hn : ∀ x ∈ a, 0 ≤ x ∧ x < (n : Int)) (q : Nat → Bool) (hq : ∀ i < n, q i = decide ((i : Int) ∈ a)) : a = ((List.range n).filter q).map Int.ofNat := by
  refine Q44 _ _ h ?_ (fun x => ?_)
  · rw [Qw, List.pairwise_map]
    refine List.Pairwise.imp (fun {a b} (hab : a < b) => ?_) (List.Pairwise.filter q List.pairwise_lt_range)
    show (a : Int) < (b : Int)
    omega
  · rw [Kt]
    constructor
    · intro hx
      have := hn x hx
      refine ⟨x.toNat, ?_, by simp; omega⟩
      rw [K1m, K21]
      refine ⟨by omega, ?_⟩
      rw [hq _ (by omega), decide_eq_true_eq, Int.toNat_of_nonneg (by omega)]
      exact hx
    · rintro ⟨i, hi, rfl⟩
      rw [K1m, K21] at hi
      rw [hq _ hi.1, decide_eq_true_eq] at hi
      exact hi.2
theorem Q25 {a : List Int} (h : Qw a) {n : Nat} (hn : ∀ x ∈ a, 0 ≤ x ∧ x < (n : Int)) : a.length ≤ n := by
  rw [Q2d a h n hn (fun i => decide ((i : Int) ∈ a)) (fun _ _ => rfl), Ky]
  have := K1q (fun i : Nat => decide ((i : Int) ∈ a)) (List.range n)
  simpa using this
def Q22 (n : Int) (l : List Int) : Nat := (l.takeWhile fun x => decide (x < n)).length
theorem Qec (n : Int) (l : List Int) : Q22 n l ≤ l.length := by
  unfold Q22
  exact (List.takeWhile_sublist _).length_le
theorem Qez (n : Int) (l : List Int) : insL n l = if Q22 n l < l.length ∧ l.getD (Q22 n l) 0 = n then l else l.take (Q22 n l) ++ n :: l.drop (Q22 n l) := by
  induction l with
  | nil => rfl
  | cons x l ih =>
    unfold insL
    by_cases h : x < n
    · have e : Q22 n (x :: l) = Q22 n l + 1 := by simp [Q22, h]
      rw [if_pos h, ih, e]
      by_cases c : Q22 n l < l.length ∧ l.getD (Q22 n l) 0 = n
      · rw [if_pos c, if_pos ⟨by simp; omega, by simpa using c.2⟩]
      · rw [if_neg c, if_neg (fun hh => c ⟨by have := hh.1; simp at this; omega, by simpa using hh.2⟩)]
        rfl
    · have e : Q22 n (x :: l) = 0 := by simp [Q22, h]
      rw [if_neg h, e]
      by_cases c : x = n
      · rw [if_pos c, if_pos ⟨by simp, by simpa using c⟩]
      · rw [if_neg c, if_neg (fun hh => c (by simpa using hh.2))]
        rfl
/-- where the search for a place stops -/
theorem Qb1 (n : Int) (l : List Int) (d : Nat) : ∀ i : Nat, i + d = l.length → (i < l.length ∧ l.getD i 0 < n → Q22 n (l.drop i) = Q22 n (l.drop (i + 1)) + 1) ∧ (¬ (i < l.length ∧ l.getD i 0 < n) → Q22 n (l.drop i) = 0) := by
  intro i hi
  constructor
  · rintro ⟨h1, h2⟩
    have e : l.getD i 0 = l[i] := by simp [K1, h1]
    rw [e] at h2
    rw [K3 h1]
    unfold Q22
    rw [List.takeWhile_cons, if_pos (by simpa using h2), Ks]
  · intro h
    by_cases h1 : i < l.length
    · have e : l.getD i 0 = l[i] := by simp [K1, h1]
      have h2 : ¬ l[i] < n := fun hh => h ⟨h1, by rw [e]; exact hh⟩
      rw [K3 h1]
      unfold Q22
      rw [List.takeWhile_cons, if_neg (by simpa using h2)]
      rfl
    · rw [Ka (by omega)]
      rfl
theorem Qdo (b : Bool) (l : List Int) (n : Int) (hl : l.length ≤ 1048576) (d : Nat) : ∀ i : Nat, i + d = l.length → Fac (b, l) n (i : Int) = some ((i + Q22 n (l.drop i) : Nat) : Int) := by
  induction d with
  | zero =>
    intro i hi
    rw [FacE, gF (by simp only; omega), Ka (by omega)]
    rfl
  | succ d ih =>
    intro i hi
    obtain ⟨h1, h2⟩ := Qb1 n l (d + 1) i hi
    rw [FacE, gT (by simp only; omega), gT (by omega), gT (by simp only; omega), Qk, up1 i (by omega), J1]
    by_cases c : l.getD i 0 < n
    · rw [gT c, ih (i + 1) (by omega), h1 ⟨by omega, c⟩]
      congr 2
      omega
    · rw [gF c, h2 (fun h => c h.2)]
      rfl
theorem Q2b (n : Int) (l : List Int) : (insL n l).length ≤ l.length + 1 := by
  induction l with
  | nil => simp [insL]
  | cons x l ih =>
    unfold insL
    split
    · simp only [Ks]; omega
    · split <;> simp
theorem Qf0 (b : Bool) (l : List Int) (n : Int) (hl : l.length ≤ 1000000) : ∃ f, F1q (b, l) n = some (f, insL n l) := by
  have hlim := J7
  have h := Qdo b l n (by omega) l.length 0 (by omega)
  rw [Kg, K1g] at h
  have h' : Fac (b, l) n 0 = _ := h
  have hk := Qec n l
  rw [F1qE, h', J0, Qez]
  generalize Q22 n l = k at hk
  have hfin : ∀ (x : Option (Bool × List Int)), x = (bif decide (0 ≤ (k : Int)) then
      bif decide ((k : Int) ≤ ((b, l).2.length : Int)) then
      bif decide (([] : List Int).length + (((b, l).2.take (Int.toNat (k : Int))).drop 0).length ≤ lim) then
      bif decide (([] ++ (((b, l).2.take (Int.toNat (k : Int))).drop 0)).length + [n].length ≤ lim) then
      bif decide (0 ≤ (k : Int)) then
      bif decide ((k : Int) ≤ ((b, l).2.length : Int)) then
      bif decide ((([] ++ (((b, l).2.take (Int.toNat (k : Int))).drop 0)) ++ [n]).length + (((b, l).2.take (b, l).2.length).drop (Int.toNat (k : Int))).length ≤ lim) then
      some (false, ((([] ++ (((b, l).2.take (Int.toNat (k : Int))).drop 0)) ++ [n]) ++ (((b, l).2.take (b, l).2.length).drop (Int.toNat (k : Int)))))
      else none else none else none else none else none else none else none) → x = some (false, l.take k ++ n :: l.drop k) := by
    rintro x rfl
    rw [gT (by omega), gT (by simp only; omega), gT (by simp; omega), gT (by simp; omega), gT (by omega), gT (by simp only; omega), gT (by simp; omega)]
    simp
  by_cases c : k < l.length
  · rw [gT (by simp only; omega), gT (by omega), gT (by simp only; omega), Qk]
    by_cases c2 : l.getD k 0 = n
    · rw [bT (by rw [beq_iff_eq]; exact c2), if_pos ⟨c, c2⟩]
      exact ⟨b, rfl⟩
    · rw [bF (beqF c2), if_neg (fun h => c2 h.2)]
      exact ⟨false, hfin _ rfl⟩
  · rw [gF (by simp only; omega), if_neg (fun h => c h.1)]
    exact ⟨false, hfin _ rfl⟩
/-- the classes of some states, state for state -/
def clsL (v some_ : List Int) : List Int := some_.map fun s => v.getD s.toNat 0
theorem Q6j (v : DSight) (l : Bool × List Int) (hl : l.2.length ≤ 100000) (hin : ∀ x ∈ l.2, 0 ≤ x ∧ x < (v.2.length : Int)) (d : Nat) : ∀ (i : Nat) (b : Bool) (o : List Int), i + d = l.2.length → o.length ≤ i →
    ∃ b', F9d v (b, o) l (l.2.length : Int) (i : Int) = some (b', (clsL v.2 (l.2.drop i)).foldl (fun o n => insL n o) o) := by
  induction d with
  | zero =>
    intro i b o hi ho
    rw [F9dE, gF (by omega), Ka (by omega)]
    exact ⟨b, rfl⟩
  | succ d ih =>
    intro i b o hi ho
    have hlt : i < l.2.length := by omega
    have hx := hin _ (K4 hlt)
    obtain ⟨f, e⟩ := Qf0 b o (v.2.getD (Int.toNat l.2[i]) 0) (by omega)
    have hlen := Q2b (v.2.getD (Int.toNat l.2[i]) 0) o
    obtain ⟨b', g⟩ := ih (i + 1) f (insL (v.2.getD (Int.toNat l.2[i]) 0) o) (by omega) (by omega)
    rw [F9dE, gT (by omega), gT (by omega), gT (by omega), J2 l.2 _ i hlt, gT hx.1, gT hx.2, e, J0, up1 i (by omega), J1, g, K3 hlt]
    exact ⟨b', rfl⟩
theorem Qai (v : DSight) (l : Bool × List Int) (hl : l.2.length ≤ 100000) (hin : ∀ x ∈ l.2, 0 ≤ x ∧ x < (v.2.length : Int)) : ∃ b, F1h v l = some (b, Qq (clsL v.2 l.2)) := by
  obtain ⟨b, g⟩ := Q6j v l hl hin l.2.length 0 true [] (by omega) (by simp)
  have g' : F9d v (true, []) l (l.2.length : Int) 0 = _ := g
  rw [F1hE, g', J0, Kg]
  exact ⟨b, rfl⟩
theorem Q9o (v : List Int) : ∀ x ∈ v, x < Q1s v := by
  have key : ∀ (l : List Int) (m : Int), m ≤ l.foldl (fun m x => if x ≥ m then x + 1 else m) m ∧ ∀ x ∈ l, x < l.foldl (fun m x => if x ≥ m then x + 1 else m) m := by
    intro l
    induction l with
    | nil => intro m; exact ⟨Int.le_refl _, by simp⟩
    | cons y l ih =>
      intro m
      rw [K1d]
      obtain ⟨h1, h2⟩ := ih (if y ≥ m then y + 1 else m)
      have hy : m ≤ (if y ≥ m then y + 1 else m) ∧ y < (if y ≥ m then y + 1 else m) := by split <;> omega
      refine ⟨by omega, fun x hx => ?_⟩
      rcases Kd.1 hx with rfl | hx
      · omega
      · exact h2 x hx
  exact (key v 0).2
theorem Q82 (v : List Int) (hv : ∀ x ∈ v, 0 ≤ x) (l : List Int) (hl : ∀ x ∈ l, 0 ≤ x ∧ x < (v.length : Int)) : ∀ x ∈ clsL v l, 0 ≤ x ∧ x < Q1s v := by
  intro x hx
  obtain ⟨s, hs, rfl⟩ := Kt.1 hx
  have := hl s hs
  have e : v.getD s.toNat 0 = v[s.toNat]'(by omega) := by simp [K1, show s.toNat < v.length by omega]
  rw [e]
  have hm := K4 (l := v) (n := s.toNat) (by omega)
  exact ⟨hv _ hm, Q9o v _ hm⟩
theorem Qc7 (t : Bool × List Bool) (hl : t.2.length ≤ 100000) (d : Nat) : ∀ (i : Nat) (o : List Int), i + d = t.2.length → o.length ≤ i →
    F5j (false, o) t (t.2.length : Int) (i : Int) = some (false, o ++ ((List.range' i d).filter fun j => t.2.getD j false).map Int.ofNat) := by
  have hlim := J7
  induction d with
  | zero =>
    intro i o hi ho
    rw [F5jE, gF (by omega)]
    simp
  | succ d ih =>
    intro i o hi ho
    have hlt : i < t.2.length := by omega
    rw [F5jE, gT (by omega), gT (by omega), gT (by omega), Qk, up1 i (by omega), J1, J1, K1a, K1l]
    cases t.2.getD i false with
    | true => rw [cond_true, gT (by simp; omega), K1r, ih (i + 1) _ (by omega) (by simp; omega)]; simp
    | false => rw [cond_false, ih (i + 1) o (by omega) (by omega)]; simp
theorem Qek (t : Bool × List Bool) (hl : t.2.length ≤ 100000) : F1y t = some (false, ((List.range t.2.length).filter fun j => t.2.getD j false).map Int.ofNat) := by
  have h := Qc7 t hl t.2.length 0 [] (by omega) (by simp)
  have h' : F5j (false, []) t (t.2.length : Int) 0 = _ := h
  rw [F1yE, h', J0, K1e]
  rfl
theorem Q6x (v : DSight) (hv : ∀ x ∈ v.2, 0 ≤ x) (m : Nat) (hm : Q1s v.2 = m) (l : Bool × List Int) (hl : l.2.length ≤ 100000) (hin : ∀ x ∈ l.2, 0 ≤ x ∧ x < (v.2.length : Int)) (d : Nat) : ∀ (i : Nat) (t : List Bool), i + d = l.2.length → t.length = m →
    ∃ t', t'.length = m ∧ (∀ j < m, t'.getD j false = (t.getD j false || decide ((j : Int) ∈ clsL v.2 (l.2.drop i)))) ∧ F9q v (false, t) l (l.2.length : Int) (i : Int) = some (false, t') := by
  induction d with
  | zero =>
    intro i t hi ht
    refine ⟨t, ht, fun j _ => ?_, by rw [F9qE, gF (by omega)]⟩
    rw [Ka (by omega)]
    simp [clsL]
  | succ d ih =>
    intro i t hi ht
    have hlt : i < l.2.length := by omega
    have hx := hin _ (K4 hlt)
    have hc := Q82 v.2 hv l.2 hin (v.2.getD (Int.toNat l.2[i]) 0) (Kt.2 ⟨_, K4 hlt, rfl⟩)
    obtain ⟨t', h1, h2, h3⟩ := ih (i + 1) (t.set (Int.toNat (v.2.getD (Int.toNat l.2[i]) 0)) true) (by omega) (by rw [Ku]; exact ht)
    refine ⟨t', h1, fun j hj => ?_, ?_⟩
    · rw [h2 j hj, K3 hlt]
      have e : clsL v.2 (l.2[i] :: l.2.drop (i + 1)) = v.2.getD (Int.toNat l.2[i]) 0 :: clsL v.2 (l.2.drop (i + 1)) := rfl
      rw [e]
      by_cases cj : (j : Int) = v.2.getD (Int.toNat l.2[i]) 0
      · have : Int.toNat (v.2.getD (Int.toNat l.2[i]) 0) = j := by omega
        have h5 : decide ((j : Int) ∈ v.2.getD (Int.toNat l.2[i]) 0 :: clsL v.2 (l.2.drop (i + 1))) = true := decide_eq_true (by rw [← cj]; exact Kp)
        rw [h5, this, Q18 t j true false (by omega), Bool.true_or, Bool.or_true]
      · have hne : Int.toNat (v.2.getD (Int.toNat l.2[i]) 0) ≠ j := by omega
        have e2 : (t.set (Int.toNat (v.2.getD (Int.toNat l.2[i]) 0)) true).getD j false = t.getD j false := by
          rw [K1, List.getElem?_set_ne hne, K1]
        rw [e2]
        congr 1
        exact decide_eq_decide.mpr ⟨K8 _, fun h => (Kd.1 h).resolve_left cj⟩
    · rw [F9qE, gT (by omega), gT (by omega), gT (by omega), J2 l.2 _ i hlt, gT hx.1, gT hx.2, gT hc.1, gT (by simp only; omega), up1 i (by omega), J1, h3]
theorem Qb8 (v : DSight) (hvl : v.2.length ≤ 1048576) (h0 : 0 < v.2.length) (hin : ∀ x ∈ v.2, 0 ≤ x ∧ x ≤ 32) (l : Bool × List Int) (hl : l.2.length ≤ 100000) (hi : ∀ x ∈ l.2, 0 ≤ x ∧ x < (v.2.length : Int)) : F1m v l = some (false, Qq (clsL v.2 l.2)) := by
  have hlim := J7
  have hc := Q4l v.2 hin
  obtain ⟨m, hm⟩ := Kf hc.1
  have hv : ∀ x ∈ v.2, 0 ≤ x := fun x hx => (hin x hx).1
  obtain ⟨t, h1, h2, h3⟩ := Q6x v hv m hm l hl hi l.2.length 0 (List.replicate m false) (by omega) (by simp)
  have h3' : F9q v (false, List.replicate m false) l (l.2.length : Int) 0 = _ := h3
  rw [F1mE, Q4c v hvl h0 hin, J0, hm, gT (by omega), gT (by omega), gT (by omega), gT (by omega), K7, h3', J0, Qek (false, t) (by simp only; omega), J0]
  congr 2
  have hcls := Q82 v.2 hv l.2 hi
  symm
  rw [show ((false, t) : Bool × List Bool).2.length = m from h1]
  refine Q2d _ (Qo _) m (fun x hx => ?_) _ (fun i hi2 => ?_)
  · have := hcls x ((Qh _ x).1 hx)
    omega
  · rw [h2 i hi2, Kg]
    have e : (List.replicate m false).getD i false = false := by simp [K1, List.getElem?_replicate, hi2]
    rw [e, Bool.false_or]
    exact decide_eq_decide.mpr (Qh _ _).symm
/-- the state after a command's changes -/
noncomputable def doL (p : DProgram) (s : List Int) (cs : List DChange) : List Int := cs.foldl (fun o d => o.set d.1.toNat (valT p.1 s d.2.2)) s
/-- a state's number -/
def noL (w : Nat) : List Int → Int
  | [] => 0
  | a :: l => a + 2 ^ w * noL w l
/-- a state of a program -/
structure StOf (p : DProgram) (s : List Int) : Prop where
  len : (s.length : Int) = p.2.1
  words : ∀ v ∈ s, W5 p.1 v
theorem Q51 {p : DProgram} (hp : Sml p) (no : Int) : StOf p (Qb p no) := ⟨Q19 hp no, Q1k hp no⟩
theorem Q5i {s : List Int} {p : DProgram} (cs : List DChange) : ∀ o : List Int, (cs.foldl (fun o d => o.set d.1.toNat (valT p.1 s d.2.2)) o).length = o.length := by
  induction cs with
  | nil => intro o; rfl
  | cons c cs ih => intro o; rw [K1d, ih, Ku]
theorem Qcx {p : DProgram} (hp : Sml p) {s : List Int} (hs : StOf p s) (b : Bool) (t : Bool × List DNode) (hx : WfN t.2) (hk : Q1 p.1 p.2.1 t.2 = 1) :
    W5 p.1 (valT p.1 s t.2) ∧ F48 p.1 t (IntKind.i64.wrap ((t.2.length : Int) - 1)) (b, s) = some (valT p.1 s t.2) ∧ Fm p.1 t (b, s) = some (valT p.1 s t.2) := by
  have h1 := hp.w1
  have h2 := hp.w2
  have hv4 := hp.v2
  have h3 := hp.v2
  have hl := hs.len
  obtain ⟨q1, _, q2, q3⟩ := Q23 p.1 (by omega) (b, s) (by simp only; omega) hs.words t hx (by rw [show (((b, s) : Bool × List Int).2.length : Int) = p.2.1 from hl, hk]; decide)
  exact ⟨q1, q2, q3⟩
theorem Qbi {p : DProgram} (hp : Sml p) {s : List Int} (hs : StOf p s) (cs : List DChange) (hw : ∀ d ∈ cs, WfCh d) (hc : ∀ d ∈ cs, 0 ≤ d.1 ∧ d.1 < p.2.1 ∧ Q1 p.1 p.2.1 d.2.2 = 1) : StOf p (doL p s cs) := by
  refine ⟨by rw [doL, Q5i]; exact hs.len, ?_⟩
  have key : ∀ (cs : List DChange), (∀ d ∈ cs, WfCh d) → (∀ d ∈ cs, 0 ≤ d.1 ∧ d.1 < p.2.1 ∧ Q1 p.1 p.2.1 d.2.2 = 1) → ∀ o : List Int, (∀ v ∈ o, W5 p.1 v) → ∀ v ∈ cs.foldl (fun o d => o.set d.1.toNat (valT p.1 s d.2.2)) o, W5 p.1 v := by
    intro cs
    induction cs with
    | nil => intro _ _ o ho; exact ho
    | cons c cs ih =>
      intro hw hc o ho
      rw [K1d]
      refine ih (fun d hd => hw d (K8 _ hd)) (fun d hd => hc d (K8 _ hd)) _ (fun v hv => ?_)
      rcases List.mem_or_eq_of_mem_set hv with hv | rfl
      · exact ho v hv
      · exact (Qcx hp hs false c.2 (hw c Kp) (hc c Kp).2.2).1
  exact key cs hw hc s hs.words
theorem Qfn {p : DProgram} (hp : Sml p) {s : List Int} (hs : StOf p s) (b : Bool) (cs : Bool × List DChange) (hl : cs.2.length ≤ 1048576) (hw : ∀ d ∈ cs.2, WfCh d) (hc : ∀ d ∈ cs.2, 0 ≤ d.1 ∧ d.1 < p.2.1 ∧ Q1 p.1 p.2.1 d.2.2 = 1) (f : Bool) :
    F8s (b, s) p (f, s) cs (cs.2.length : Int) 0 = some (f, doL p s cs.2) ∧ Fa9 (b, s) p (f, s) cs (cs.2.length : Int) 0 = some (f, doL p s cs.2) := by
  constructor
  · exact Jx cs.2 (fun (o : List Int) d => o.set d.1.toNat (valT p.1 s d.2.2)) (fun o => (f, o)) (fun o i => F8s (b, s) p (f, o) cs (cs.2.length : Int) i) (fun i o => o.length = s.length) (fun i h o ho => by
      have hd := K4 h
      obtain ⟨_, q2, _⟩ := Qcx hp hs b (cs.2[i]).2 (hw _ hd) (hc _ hd).2.2
      have c1 := hc _ hd
      have := hs.len
      refine ⟨?_, by rw [Ku]; exact ho⟩
      rw [F8sE, gT (by omega), gT (by omega), gT (by omega), J2 cs.2 _ i h, q2, J0, gT c1.1, gT (by simp only; omega), up1 i (by omega), J1]) (fun o ho => by rw [F8sE, gF (by omega)]) s rfl
  · exact Jx cs.2 (fun (o : List Int) d => o.set d.1.toNat (valT p.1 s d.2.2)) (fun o => (f, o)) (fun o i => Fa9 (b, s) p (f, o) cs (cs.2.length : Int) i) (fun i o => o.length = s.length) (fun i h o ho => by
      have hd := K4 h
      obtain ⟨_, _, q3⟩ := Qcx hp hs b (cs.2[i]).2 (hw _ hd) (hc _ hd).2.2
      have c1 := hc _ hd
      have := hs.len
      refine ⟨?_, by rw [Ku]; exact ho⟩
      rw [Fa9E, gT (by omega), gT (by omega), gT (by omega), J2 cs.2 _ i h, q3, J0, gT c1.1, gT (by simp only; omega), up1 i (by omega), J1]) (fun o ho => by rw [Fa9E, gF (by omega)]) s rfl
theorem l7Do {p : DProgram} (hp : Sml p) (hg : Q4 p = true) (hsm : Qa p) (hw : WfP p) {s : List Int} (hs : StOf p s) (b : Bool) (k : Nat) (hk : k < p.2.2.2.2.length) : F3k p (b, s) (k : Int) = some (false, doL p s (p.2.2.2.2[k]).2.2) := by
  have hlim := J7
  have hl := hs.len
  have hv := hp.v2
  have hm := K4 hk
  have q := (Qfn hp hs b (p.2.2.2.2[k]).2 (hsm.2.2 _ hm).2.1 (hw.2 _ hm).2 (Q3g hg _ hm).2 false).1
  rw [F3kE, gT (by simp; omega), gT (by omega), gT (by omega), J2 p.2.2.2.2 _ k hk, Kv, q, J0]
theorem Qfl {p : DProgram} (hp : Sml p) (hg : Q4 p = true) (hsm : Qa p) (hw : WfP p) {s : List Int} (hs : StOf p s) (c : DCommand) (hm : c ∈ p.2.2.2.2) : F2q p c (false, s) = some (false, doL p s c.2.2) := by
  have hlim := J7
  have hl := hs.len
  have hv := hp.v2
  have q := (Qfn hp hs false c.2 (hsm.2.2 _ hm).2.1 (hw.2 _ hm).2 (Q3g hg _ hm).2 false).2
  rw [F2qE, F52E, cond_false, gT (by simp; omega), Kv, J0, q, J0]
/-! numbers of states -/
theorem Q7l (w : Nat) : ∀ s : List Int, (∀ v ∈ s, 0 ≤ v ∧ v < 2 ^ w) → 0 ≤ noL w s ∧ noL w s < 2 ^ (w * s.length) := by
  intro s
  induction s with
  | nil => intro _; simp [noL]
  | cons a s ih =>
    intro h
    obtain ⟨h1, h2⟩ := ih fun v hv => h v (K8 _ hv)
    have ha := h a Kp
    have hp : (0 : Int) < 2 ^ w := Int.pow_pos (by decide)
    have e : (2 : Int) ^ (w * (a :: s).length) = 2 ^ w * 2 ^ (w * s.length) := by rw [Ks, Nat.mul_succ, Nat.add_comm, Int.pow_add]
    have h3 : 2 ^ w * noL w s ≤ 2 ^ w * (2 ^ (w * s.length) - 1) := Int.mul_le_mul_of_nonneg_left (by omega) (by omega)
    have h4 : 0 ≤ 2 ^ w * noL w s := Int.mul_nonneg (by omega) h1
    rw [Int.mul_sub, Int.mul_one] at h3
    rw [e, noL]
    omega
theorem Qdw (w : Nat) (a : Int) : ∀ s : List Int, noL w (s ++ [a]) = noL w s + 2 ^ (w * s.length) * a := by
  intro s
  induction s with
  | nil => simp [noL]
  | cons b s ih =>
    rw [List.cons_append, noL, ih, noL, Ks, Nat.mul_succ, Nat.add_comm (w * s.length), Int.pow_add, Int.mul_add, Int.mul_assoc, Int.add_assoc]
theorem Qeu (a b : Nat) (ha : a < 2 ^ 62) (hb : b < 2 ^ 62) : bOr .i64 (a : Int) (b : Int) = ((a ||| b : Nat) : Int) := by
  unfold bOr
  show IntKind.i64.wrap (((BitVec.ofInt 64 (a : Int) ||| BitVec.ofInt 64 (b : Int)).toNat : Nat) : Int) = _
  rw [BitVec.toNat_or, BitVec.ofInt_natCast, BitVec.ofInt_natCast, BitVec.toNat_ofNat, BitVec.toNat_ofNat, K1w (by omega), K1w (by omega)]
  have := Nat.or_lt_two_pow ha hb
  exact wr ⟨by omega, by simp at this; omega⟩
theorem Q99 (x : Int) (n : Nat) (hn : n < 64) (h : 0 ≤ x * 2 ^ n ∧ x * 2 ^ n < 9223372036854775808) : bShl .i64 x (n : Int) = x * 2 ^ n := by
  unfold bShl
  have e : min ((n : Int)).toNat (IntKind.i64.bits) = n := by
    simp only [K7, IntKind.bits]
    omega
  rw [e, wr (by omega)]
theorem Q5c {p : DProgram} (hp : Sml p) {w : Nat} (hw : p.1 = w) {s : List Int} (hs : ∀ v ∈ s, W5 p.1 v) : ∀ v ∈ s, 0 ≤ v ∧ v < 2 ^ w := by
  intro v hv
  have h := hs v hv
  have e : top p.1 + 1 = ((2 ^ w : Nat) : Int) := by rw [hw]; exact Q46
  have e2 : ((2 : Int) ^ w) = ((2 ^ w : Nat) : Int) := by simp
  exact ⟨h.1, by rw [e2, ← e]; have := h.2; omega⟩
theorem pow5 {n : Nat} (h : n ≤ 5) : (2 : Int) ^ n ≤ 32 := by
  have : (2 : Nat) ^ n ≤ 2 ^ 5 := Nat.pow_le_pow_right (by decide) h
  have e2 : ((2 : Int) ^ n) = ((2 ^ n : Nat) : Int) := by simp
  omega
theorem Q9r (n : Nat) : (1 : Int) ≤ 2 ^ n := by
  have : (0 : Int) < 2 ^ n := Int.pow_pos (by decide)
  omega
theorem l7No {p : DProgram} (hp : Sml p) {s : List Int} (hs : StOf p s) (b : Bool) : F39 p (b, s) = some (noL p.1.toNat s) := by
  obtain ⟨w, hw⟩ := Kf (show 0 ≤ p.1 by have := hp.w1; omega)
  have hpw := Q5c hp hw hs.words
  have hl := hs.len
  have ha : w * s.length ≤ 5 := Q62 (by have := hp.a1; rw [hw, ← hl] at this; exact this)
  have h1 := hp.w1
  have h2 := hp.w2
  have hv4 := hp.v2
  have key : ∀ (i : Nat), i ≤ s.length → F9c (b, s) p (noL w (s.drop i)) ((i : Int) - 1) = some (noL w s) := by
    intro i
    induction i with
    | zero =>
      intro _
      rw [F9cE, gF (by omega), Kg]
    | succ i ih =>
      intro hi
      have hlt : i < s.length := by omega
      have hq := Q7l w (s.drop (i + 1)) fun v hv => hpw v (List.mem_of_mem_drop hv)
      have hq2 := Q7l w (s.drop i) fun v hv => hpw v (List.mem_of_mem_drop hv)
      have hv := hpw _ (K4 hlt)
      have hd := K3 hlt
      have hpd : w * (s.drop i).length ≤ 5 := Kx (Nat.mul_le_mul_left w (by simp)) ha
      have hb := pow5 hpd
      have e0 : noL w (s.drop i) = s[i] + 2 ^ w * noL w (s.drop (i + 1)) := by rw [hd, noL]
      have hm : noL w (s.drop (i + 1)) * 2 ^ w = 2 ^ w * noL w (s.drop (i + 1)) := Int.mul_comm _ _
      have hnn : 0 ≤ 2 ^ w * noL w (s.drop (i + 1)) := Int.mul_nonneg (by have := Q9r w; omega) hq.1
      rw [F9cE, gT (by omega), hw, wru (by omega), gF (by omega), gT (by omega), gT (by simp only; omega), show ((i + 1 : Nat) : Int) - 1 = (i : Int) by omega, J2 s _ i hlt, Q99 _ w (by omega) (by omega), wr (n := s[i]) (by omega), hm, Int.add_comm, ← e0, wr (n := noL w (s.drop i)) (by omega), wr (n := (i : Int) - 1) (by omega), J1, ih (by omega)]
  have := key s.length (K12 _)
  rw [List.drop_length] at this
  have this' : F9c (b, s) p 0 ((s.length : Int) - 1) = some (noL w s) := this
  rw [F39E, wr (by omega), ← hl, this', J0, hw, K7]
theorem Qff {p : DProgram} (hp : Sml p) {s : List Int} (hs : StOf p s) (b : Bool) : F3p p (b, s) = some (noL p.1.toNat s) := by
  obtain ⟨w, hw⟩ := Kf (show 0 ≤ p.1 by have := hp.w1; omega)
  have hpw := Q5c hp hw hs.words
  have hl := hs.len
  have ha : w * s.length ≤ 5 := Q62 (by have := hp.a1; rw [hw, ← hl] at this; exact this)
  have h1 := hp.w1
  have h2 := hp.w2
  have hv4 := hp.v2
  have key : ∀ (d i : Nat), i + d = s.length → Fa7 p (noL w (s.take i)) (b, s) (s.length : Int) (i : Int) = some (noL w s) := by
    intro d
    induction d with
    | zero =>
      intro i hi
      rw [Fa7E, gF (by omega), K1i (by omega)]
    | succ d ih =>
      intro i hi
      have hlt : i < s.length := by omega
      have hv := hpw _ (K4 hlt)
      have hq := Q7l w (s.take i) fun v hv => hpw v (List.mem_of_mem_take hv)
      have hq2 := Q7l w (s.take (i + 1)) fun v hv => hpw v (List.mem_of_mem_take hv)
      have hti : (s.take i).length = i := by simp; omega
      have hti2 : (s.take (i + 1)).length = i + 1 := by simp; omega
      have e0 : noL w (s.take (i + 1)) = noL w (s.take i) + 2 ^ (w * i) * s[i] := by
        rw [K1c hlt, Qdw, hti]
      have hwi : w * (i + 1) ≤ 5 := Kx (Nat.mul_le_mul_left w (by omega)) ha
      have hwi0 : w * i ≤ 5 := Kx (Nat.mul_le_mul_left w (by omega)) ha
      rw [hti2] at hq2
      rw [hti] at hq
      have hb := pow5 hwi
      have hb2 := pow5 (show w ≤ 5 by omega)
      have hnn : 0 ≤ 2 ^ (w * i) * s[i] := Int.mul_nonneg (by have := Q9r (w * i); omega) hv.1
      have hm : s[i] * 2 ^ (w * i) = 2 ^ (w * i) * s[i] := Int.mul_comm _ _
      have e1 : (w : Int) * (i : Int) = ((w * i : Nat) : Int) := by simp
      obtain ⟨m, hm2⟩ := Kf hq.1
      obtain ⟨n, hn2⟩ := Kf hv.1
      have hor : bOr .i64 (noL w (s.take i)) (2 ^ (w * i) * s[i]) = noL w (s.take (i + 1)) := by
        rw [e0, hm2, hn2]
        have hmlt : m < 2 ^ (w * i) := by
          have e2 : ((2 : Int) ^ (w * i)) = ((2 ^ (w * i) : Nat) : Int) := by simp
          have := hq.2
          rw [hm2, e2] at this
          omega
        have e3 : (2 : Int) ^ (w * i) * (n : Int) = ((2 ^ (w * i) * n : Nat) : Int) := by simp
        rw [e3, Qeu m _ (by omega) (by rw [hn2, e3] at hnn; have := hq2.2; rw [e0, hm2, hn2, e3] at this; omega), Nat.or_comm, ← Nat.two_pow_add_eq_or_of_lt hmlt]
        omega
      rw [Fa7E, gT (by omega), gT (by omega), gT (by simp only; omega), hw, e1, wr (n := ((w * i : Nat) : Int)) (by omega), gF (by omega), J2 s _ i hlt, wr (n := s[i]) (by omega), Q99 _ (w * i) (by omega) (by omega), hm, hor, up1 i (by omega), J1, ih (i + 1) (by omega)]
  have := key s.length 0 (by omega)
  have this' : Fa7 p 0 (b, s) (s.length : Int) 0 = some (noL w s) := this
  rw [F3pE]
  rw [show (((b, s) : Bool × List Int).2.length : Int) = (s.length : Int) from rfl, this', J0, hw, K7]
theorem Qdv {p : DProgram} (hp : Sml p) {s : List Int} (hs : StOf p s) : 0 ≤ noL p.1.toNat s ∧ noL p.1.toNat s < (Q0 p : Int) := by
  obtain ⟨w, hw⟩ := Kf (show 0 ≤ p.1 by have := hp.w1; omega)
  have h := Q7l w s (Q5c hp hw hs.words)
  have e : w * s.length = (p.1 * p.2.1).toNat := by rw [hw, ← hs.len, ← Int.natCast_mul, K7]
  rw [hw, K7, Q0, ← e]
  refine ⟨h.1, ?_⟩
  have e2 : ((2 : Int) ^ (w * s.length)) = ((2 ^ (w * s.length) : Nat) : Int) := by simp
  rw [← e2]
  exact h.2
theorem Q5d (zs : List Int) (h : zs.Pairwise (· ≤ ·)) : Qw (Lib.compact zs) ∧ ∀ x, x ∈ Lib.compact zs ↔ x ∈ zs := by
  have hget : ∀ i (hi : i < zs.length), zs.toArray[i]! = zs[i] := fun i hi => by simp [hi]
  have hle : ∀ i j (hj : j < zs.length) (hij : i ≤ j), zs[i]'(by omega) ≤ zs[j] := by
    intro i j hj hij
    rcases Nat.lt_or_ge i j with h1 | h1
    · exact List.pairwise_iff_getElem.1 h i j (by omega) hj h1
    · obtain rfl : i = j := by omega
      exact Int.le_refl _
  refine ⟨?_, fun x => ⟨J62 x, ?_⟩⟩
  · unfold Lib.compact Lib.compactUpTo
    rw [Qw, List.pairwise_map]
    refine List.Pairwise.imp_of_mem (fun {a b} ha hb hab => ?_) (List.Pairwise.filter _ List.pairwise_lt_range)
    rw [K1m, K21] at ha hb
    have h1 := hb.2
    simp only [Lib.keeps, decide_eq_true_eq] at h1
    rw [hget a ha.1, hget b hb.1]
    rcases h1 with h1 | h1
    · omega
    · rw [hget b hb.1, hget (b - 1) (by omega)] at h1
      have h2 := hle a (b - 1) (by omega) (by omega)
      have h3 := hle (b - 1) b hb.1 (by omega)
      omega
  · intro hx
    obtain ⟨i, hi, rfl⟩ := List.getElem_of_mem hx
    have key : ∀ i (hi : i < zs.length), zs[i] ∈ Lib.compact zs := by
      intro i
      induction i with
      | zero =>
        intro hi
        unfold Lib.compact Lib.compactUpTo
        exact Kt.2 ⟨0, K1m.2 ⟨K21.2 hi, by simp [Lib.keeps]⟩, hget 0 hi⟩
      | succ i ih =>
        intro hi
        by_cases c : zs[i + 1] = zs[i]
        · rw [c]; exact ih (by omega)
        · unfold Lib.compact Lib.compactUpTo
          refine Kt.2 ⟨i + 1, K1m.2 ⟨K21.2 hi, ?_⟩, hget (i + 1) hi⟩
          simp only [Lib.keeps, decide_eq_true_eq]
          right
          rw [hget (i + 1) hi, Nat.add_sub_cancel, hget i (by omega)]
          exact c
    exact key i hi
theorem Q7o (l : List Int) : Lib.compact (l.mergeSort fun a b => decide (a ≤ b)) = Qq l := by
  have h := List.pairwise_mergeSort (le := fun a b : Int => decide (a ≤ b)) (by intro a b c; simp; omega) (by intro a b; simp; omega) l
  obtain ⟨h1, h2⟩ := Q5d (l.mergeSort fun a b => decide (a ≤ b)) (h.imp (by simp))
  refine Q44 _ _ h1 (Qo l) fun x => ?_
  rw [h2, Qh]
  exact (List.mergeSort_perm l _).mem_iff
theorem Qav {α : Type} (l : List Int) (hl : l.length ≤ 1048576) (f : Bool × List Int → Option α) : ((F5p (false, l)).bind fun r => (F78 (r.1, r.2)).bind f) = f (false, Qq l) := by
  have hlim := J7
  rw [F5pE, J1]
  have e : J9w (false, l) = some (false, l.mergeSort fun a b => decide (a ≤ b)) := by
    unfold J9w
    rw [cond_false, gT (by simp only; omega)]
  rw [e, J0, F78E, J1]
  have e2 : J1z (false, l.mergeSort fun a b => decide (a ≤ b)) = some (false, Qq l) := by
    unfold J1z
    rw [cond_false, gT (by simp only [List.length_mergeSort]; omega), Q7o]
  show (J1z (false, l.mergeSort fun a b => decide (a ≤ b))).bind f = _
  rw [e2, J0]
theorem Q5n (l : List Int) : ∀ o, (l.foldl (fun o n => insL n o) o).length ≤ o.length + l.length := by
  induction l with
  | nil => intro o; simp
  | cons a l ih =>
    intro o
    rw [K1d, Ks]
    have h1 := ih (insL a o)
    have h2 := Q2b a o
    omega
theorem Q2s (l : List Int) : (Qq l).length ≤ l.length := by
  have := Q5n l []
  simpa [Qq] using this
/-- where a command leads from a state, if it is enabled there -/
noncomputable def goC (p : DProgram) (c : DCommand) (s : List Int) : List Int := if Q4v p c.1.2 s = true then [noL p.1.toNat (doL p s c.2.2)] else []
/-- where the commands lead from a state -/
noncomputable def goL (p : DProgram) (no : Int) : List Int := p.2.2.2.2.flatMap fun c => goC p c (Qb p no)
noncomputable def Q9 (p : DProgram) (no : Int) : List Int := if goL p no = [] then [no] else Qq (goL p no)
/-- what is known of a small program -/
structure Ok (p : DProgram) : Prop where
  sml : Sml p
  good : Q4 p = true
  sm : Qa p
  wf : WfP p
theorem Qfj {p : DProgram} (h : Qp p = true) (hs : Qa p) (hw : WfP p) : Ok p := ⟨Q94 h, (Q40 h).1, hs, hw⟩
theorem Ok.cmd {p : DProgram} (h : Ok p) {c : DCommand} (hc : c ∈ p.2.2.2.2) : WfN c.1.2 ∧ Q1 p.1 p.2.1 c.1.2 ≠ 0 := by
  refine ⟨(h.wf.2 c hc).1, ?_⟩
  rw [(Q3g h.good c hc).1]
  decide
theorem Ok.many {p : DProgram} (h : Ok p) : 1 ≤ p.2.2.2.2.length ∧ p.2.2.2.2.length ≤ 6 := by
  have hg := h.good
  simp only [Q4, K5, decide_eq_true_eq] at hg
  exact hg.2.1
theorem Qfr {p : DProgram} (h : Ok p) {c : DCommand} (hc : c ∈ p.2.2.2.2) {s : List Int} (hs : StOf p s) : ∀ x ∈ goC p c s, 0 ≤ x ∧ x < (Q0 p : Int) := by
  intro x hx
  unfold goC at hx
  split at hx
  · rw [K18] at hx
    rw [hx]
    exact Qdv h.sml (Qbi h.sml hs _ (h.wf.2 _ hc).2 (Q3g h.good _ hc).2)
  · cases hx
theorem Qfs {p : DProgram} (h : Ok p) (no : Int) : ∀ x ∈ goL p no, 0 ≤ x ∧ x < (Q0 p : Int) := by
  intro x hx
  obtain ⟨c, hc, hx⟩ := List.mem_flatMap.1 hx
  exact Qfr h hc (Q51 h.sml no) x hx
theorem Q2x {p : DProgram} (h : Ok p) {no : Int} (hn : 0 ≤ no ∧ no < (Q0 p : Int)) : ∀ x ∈ Q9 p no, 0 ≤ x ∧ x < (Q0 p : Int) := by
  intro x hx
  unfold Q9 at hx
  split at hx
  · rw [K18] at hx
    omega
  · exact Qfs h no x ((Qh _ x).1 hx)
theorem Q2p (p : DProgram) (no : Int) : Qw (Q9 p no) := by
  unfold Q9
  split
  · exact List.pairwise_singleton _ _
  · exact Qo _
theorem Qd {p : DProgram} (h : Ok p) {no : Int} (hn : 0 ≤ no ∧ no < (Q0 p : Int)) : (Q9 p no).length ≤ Q0 p := Q25 (Q2p p no) (Q2x h hn)
theorem Qa9 (p : DProgram) (c : DCommand) (s : List Int) : (goC p c s).length ≤ 1 := by
  unfold goC
  split <;> simp
theorem Qaa (p : DProgram) (no : Int) (cs : List DCommand) : (cs.flatMap fun c => goC p c (Qb p no)).length ≤ cs.length := by
  induction cs with
  | nil => simp
  | cons a l ih =>
    have := Qa9 p a (Qb p no)
    simp only [K13, Kj, Ks]
    omega
/-! afterOf -/
theorem Qcd {p : DProgram} (h : Ok p) (no : Int) (d : Nat) : ∀ (i : Nat) (o : List Int), i + d = p.2.2.2.2.length → o.length ≤ i →
    F5y no p (false, Qb p no) (false, o) p.2.2.2 (p.2.2.2.2.length : Int) (i : Int) = some (false, o ++ (p.2.2.2.2.drop i).flatMap fun c => goC p c (Qb p no)) := by
  have hlim := J7
  have hmany := h.many
  have hs := Q51 h.sml no
  induction d with
  | zero =>
    intro i o hi ho
    rw [F5yE, gF (by omega), Ka (by omega)]
    simp
  | succ d ih =>
    intro i o hi ho
    have hlt : i < p.2.2.2.2.length := by omega
    have hm := K4 hlt
    obtain ⟨c1, c2⟩ := h.cmd hm
    have e := (Q3k h.sml (p.2.2.2.2[i]).1 c1 c2 false no).2
    rw [F5yE, gT (by omega), gT (by omega), gT (by omega), J2 p.2.2.2.2 _ i hlt, e, J0, K3 hlt, K13, up1 i (by omega), J1]
    cases hh : Qc p (p.2.2.2.2[i]).1.2 no with
    | true =>
      have hg : goC p (p.2.2.2.2[i]) (Qb p no) = [noL p.1.toNat (doL p (Qb p no) (p.2.2.2.2[i]).2.2)] := if_pos hh
      rw [cond_true, Qfl h.sml h.good h.sm h.wf hs _ hm, J0, Qff h.sml (Qbi h.sml hs _ (h.wf.2 _ hm).2 (Q3g h.good _ hm).2), J0, gT (by simp; omega), J1, K1r, ih (i + 1) _ (by omega) (by simp; omega), hg]
      simp
    | false =>
      have hg : goC p (p.2.2.2.2[i]) (Qb p no) = [] := if_neg (by show ¬ Qc _ _ _ = true; rw [hh]; simp)
      rw [cond_false, ih (i + 1) o (by omega) (by omega), hg]
      simp
theorem Qcc {p : DProgram} (h : Ok p) (no : Int) (hn : 0 ≤ no ∧ no < 1000) : F1k p no = some (false, Q9 p no) := by
  have hmany := h.many
  have q := Qcd h no p.2.2.2.2.length 0 [] (by omega) (by simp)
  have q' : F5y no p (false, Qb p no) (false, []) p.2.2.2 (p.2.2.2.2.length : Int) 0 = _ := q
  have hlen := Qaa p no p.2.2.2.2
  rw [F1kE, Q52 h.sml no hn, J0, q', J0, Kv, Kg]
  show (bif (((goL p no).length : Int) == 0) then some (false, [no]) else (F5p (false, goL p no)).bind fun r2 => (F78 (r2.1, r2.2)).bind fun r3 => some (r3.1, r3.2)) = _
  unfold Q9
  by_cases c : goL p no = []
  · rw [if_pos c, bT (by rw [c]; rfl)]
  · have : 0 < (goL p no).length := List.length_pos_iff.2 c
    rw [if_neg c, bF (beqF (by omega)), Qav _ (by show (goL p no).length ≤ _; have : (goL p no).length ≤ p.2.2.2.2.length := hlen; omega)]
theorem Q7g {p : DProgram} (h : Ok p) (no : Int) (d : Nat) : ∀ (i : Nat) (b : Bool) (o : List Int), i + d = p.2.2.2.2.length → o.length ≤ i →
    ∃ b', F5z (false, Qb p no) p (b, o) p.2.2.2 (p.2.2.2.2.length : Int) (i : Int) = some (b', o ++ ((List.range' i d).filter fun k => Qc p (p.2.2.2.2.getD k ((true, []), (true, []))).1.2 no).map Int.ofNat) := by
  have hlim := J7
  have hmany := h.many
  induction d with
  | zero =>
    intro i b o hi ho
    rw [F5zE, gF (by omega)]
    exact ⟨b, by simp⟩
  | succ d ih =>
    intro i b o hi ho
    have hlt : i < p.2.2.2.2.length := by omega
    have hm := K4 hlt
    obtain ⟨c1, c2⟩ := h.cmd hm
    have e := (Q3k h.sml (p.2.2.2.2[i]).1 c1 c2 false no).1
    have e2 : p.2.2.2.2.getD i ((true, []), (true, [])) = p.2.2.2.2[i] := by simp [K1, hlt]
    rw [F5zE, gT (by omega), gT (by omega), gT (by omega), Qk, e2, e, J0, K1a, K1l, e2, up1 i (by omega), J1, J1]
    cases hh : Qc p (p.2.2.2.2[i]).1.2 no with
    | true =>
      obtain ⟨b', g⟩ := ih (i + 1) (b && false) (o ++ [(i : Int)]) (by omega) (by simp; omega)
      rw [cond_true, gT (by simp; omega), g]
      exact ⟨b', by simp⟩
    | false =>
      obtain ⟨b', g⟩ := ih (i + 1) b o (by omega) (by omega)
      rw [cond_false, g]
      exact ⟨b', by simp⟩
/-- the numbers of the commands that are enabled -/
noncomputable def Q4s (p : DProgram) (no : Int) : List Int := ((List.range p.2.2.2.2.length).filter fun k => Qc p (p.2.2.2.2.getD k ((true, []), (true, []))).1.2 no).map Int.ofNat
theorem Qc1 {p : DProgram} (h : Ok p) (no : Int) : ∃ b, F21 p (false, Qb p no) = some (b, Q4s p no) := by
  obtain ⟨b, q⟩ := Q7g h no p.2.2.2.2.length 0 true [] (by omega) (by simp)
  have q' : F5z (false, Qb p no) p (true, []) p.2.2.2 (p.2.2.2.2.length : Int) 0 = _ := q
  rw [F21E, q', J0, Q4s, K1e]
  exact ⟨b, rfl⟩
theorem Qdc (p : DProgram) (no : Int) : goL p no = (Q4s p no).map fun k => noL p.1.toNat (doL p (Qb p no) (p.2.2.2.2.getD k.toNat ((true, []), (true, []))).2.2) := by
  have key : ∀ (l : List DCommand) (n : Nat) (h : p.2.2.2.2.drop n = l), (l.flatMap fun c => goC p c (Qb p no)) = (((List.range' n l.length).filter fun k => Qc p (p.2.2.2.2.getD k ((true, []), (true, []))).1.2 no).map Int.ofNat).map fun k => noL p.1.toNat (doL p (Qb p no) (p.2.2.2.2.getD k.toNat ((true, []), (true, []))).2.2) := by
    intro l
    induction l with
    | nil => intro n _; simp
    | cons c l ih =>
      intro n hd
      have hlt : n < p.2.2.2.2.length := by
        rcases Nat.lt_or_ge n p.2.2.2.2.length with h | h
        · exact h
        · rw [Ka h] at hd; cases hd
      rw [K3 hlt] at hd
      obtain ⟨h1, h2⟩ := List.cons.inj hd
      have e : p.2.2.2.2.getD n ((true, []), (true, [])) = c := by rw [← h1]; simp [K1, hlt]
      rw [K13, ih (n + 1) h2, Ks, K1a, K1l, e]
      cases hh : Qc p c.1.2 no with
      | true =>
        have hg : goC p c (Qb p no) = [noL p.1.toNat (doL p (Qb p no) c.2.2)] := if_pos hh
        rw [hg, if_pos rfl, K14, K14]
        simp only [Int.ofNat_eq_natCast, K7, e]
        rfl
      | false =>
        have hg : goC p c (Qb p no) = [] := if_neg (by show ¬ Qc _ _ _ = true; rw [hh]; simp)
        rw [hg, if_neg (by simp)]
        rfl
  have := key p.2.2.2.2 0 (by simp)
  rw [Q4s, K1e]
  exact this
theorem Qd9 {p : DProgram} (no : Int) : ∀ x ∈ Q4s p no, ∃ k : Nat, x = (k : Int) ∧ k < p.2.2.2.2.length := by
  intro x hx
  obtain ⟨k, hk, rfl⟩ := Kt.1 hx
  exact ⟨k, rfl, K21.1 (K1m.1 hk).1⟩
theorem Qc5 {p : DProgram} (h : Ok p) (no : Int) (l : Bool × List Int) (hl : l.2.length ≤ 1000) (hin : ∀ x ∈ l.2, ∃ k : Nat, x = (k : Int) ∧ k < p.2.2.2.2.length) (d : Nat) : ∀ (i : Nat) (b : Bool) (o : List Int), i + d = l.2.length → o.length ≤ i →
    ∃ b', F8d no p (false, Qb p no) (b, o) l (l.2.length : Int) (i : Int) = some (b', ((l.2.drop i).map fun k => noL p.1.toNat (doL p (Qb p no) (p.2.2.2.2.getD k.toNat ((true, []), (true, []))).2.2)).foldl (fun o n => insL n o) o) := by
  have hs := Q51 h.sml no
  induction d with
  | zero =>
    intro i b o hi ho
    rw [F8dE, gF (by omega), Ka (by omega)]
    exact ⟨b, rfl⟩
  | succ d ih =>
    intro i b o hi ho
    have hlt : i < l.2.length := by omega
    obtain ⟨k, hk1, hk⟩ := hin _ (K4 hlt)
    have hm := K4 hk
    have e2 : p.2.2.2.2.getD k ((true, []), (true, [])) = p.2.2.2.2[k] := by simp [K1, hk]
    obtain ⟨f, e3⟩ := Qf0 b o (noL p.1.toNat (doL p (Qb p no) (p.2.2.2.2[k]).2.2)) (by omega)
    have hlen := Q2b (noL p.1.toNat (doL p (Qb p no) (p.2.2.2.2[k]).2.2)) o
    obtain ⟨b', g⟩ := ih (i + 1) f _ (by omega) (by omega : (insL (noL p.1.toNat (doL p (Qb p no) (p.2.2.2.2[k]).2.2)) o).length ≤ i + 1)
    rw [F8dE, gT (by omega), gT (by omega), gT (by omega), J2 l.2 _ i hlt, hk1, l7Do h.sml h.good h.sm h.wf hs false k hk, J0, l7No h.sml (Qbi h.sml hs _ (h.wf.2 _ hm).2 (Q3g h.good _ hm).2), J0, e3, J0, up1 i (by omega), J1, g, K3 hlt, K14, K1d, hk1, K7, e2]
    exact ⟨b', rfl⟩
theorem Qcp (l : List Int) : Qq l = [] ↔ l = [] := by
  constructor
  · intro h
    cases l with
    | nil => rfl
    | cons a l =>
      have := (Qh (a :: l) a).2 Kp
      rw [h] at this
      cases this
  · rintro rfl; rfl
theorem Q9n {p : DProgram} (h : Ok p) (no : Int) (hn : 0 ≤ no ∧ no < 1000) : ∃ b, F1o p no = some (b, Q9 p no) := by
  obtain ⟨b1, e1⟩ := Qc1 h no
  have hmany := h.many
  have hle : (Q4s p no).length ≤ 6 := by
    rw [Q4s, Ky]
    refine Kx (K1q _ _) ?_
    simpa using hmany.2
  obtain ⟨b, q⟩ := Qc5 h no (b1, Q4s p no) (by simp only; omega) (Qd9 no) (Q4s p no).length 0 true [] (by simp) (by simp)
  have q' : F8d no p (false, Qb p no) (true, []) (b1, Q4s p no) ((Q4s p no).length : Int) 0 = _ := q
  rw [F1oE, l7Of h.sml no hn, J0, e1, J0]
  simp only [q', J0, Kg]
  rw [← Qdc]
  show ∃ b_1, (bif (((Qq (goL p no)).length : Int) == 0) then some (false, [no]) else some (b, Qq (goL p no))) = some (b_1, Q9 p no)
  unfold Q9
  by_cases c : goL p no = []
  · rw [if_pos c, bT (by rw [c]; rfl)]
    exact ⟨false, rfl⟩
  · have h0 : Qq (goL p no) ≠ [] := fun hh => c ((Qcp _).1 hh)
    have : 0 < (Qq (goL p no)).length := List.length_pos_iff.2 h0
    rw [if_neg c, bF (beqF (by omega))]
    exact ⟨b, rfl⟩
/-- the loop of slices.DeleteFunc -/
theorem Q87 {q : Int → Bool} {f : Bool} (n : Nat) (P : Int → Prop) (L : Bool × List Int → Int → Int → Option ((Bool × List Int) × Int))
    (hs : ∀ (s : List Int) (i j : Nat) (_ : i ≤ j) (h : j < s.length), s.length = n → (∀ x ∈ s, P x) → L (f, s) (i : Int) (j : Int) = bif !q s[j] then L (f, s.set i s[j]) ((i + 1 : Nat) : Int) ((j + 1 : Nat) : Int) else L (f, s) (i : Int) ((j + 1 : Nat) : Int))
    (he : ∀ (s : List Int) (i : Nat), s.length = n → L (f, s) (i : Int) (s.length : Int) = some ((f, s), (i : Int))) (d : Nat) :
    ∀ (i j : Nat) (s : List Int), i ≤ j → j + d = s.length → s.length = n → (∀ x ∈ s, P x) → ∃ (s' : List Int) (i' : Nat), L (f, s) (i : Int) (j : Int) = some ((f, s'), (i' : Int)) ∧ s'.length = n ∧ i' ≤ n ∧ s'.take i' = s.take i ++ (s.drop j).filter fun x => !q x := by
  induction d with
  | zero =>
    intro i j s hij hj hn hP
    obtain rfl : j = s.length := by omega
    exact ⟨s, i, he s i hn, hn, by omega, by simp⟩
  | succ d ih =>
    intro i j s hij hj hn hP
    have hlt : j < s.length := by omega
    rw [hs s i j hij hlt hn hP, K3 hlt, K1l]
    cases hq : q s[j] with
    | true =>
      obtain ⟨s', i', h1, h2, h3, h4⟩ := ih i (j + 1) s (by omega) (by omega) hn hP
      exact ⟨s', i', by rw [K6, cond_false, h1], h2, h3, by rw [h4, if_neg (by simp)]⟩
    | false =>
      obtain ⟨s', i', h1, h2, h3, h4⟩ := ih (i + 1) (j + 1) (s.set i s[j]) (by omega) (by rw [Ku]; omega) (by rw [Ku]; exact hn) (fun x hx => by
        rcases List.mem_or_eq_of_mem_set hx with hx | rfl
        · exact hP x hx
        · exact hP _ (K4 hlt))
      refine ⟨s', i', by rw [Bool.not_false, cond_true, h1], h2, h3, ?_⟩
      rw [h4, if_pos (by simp), List.drop_set_of_lt (by omega)]
      have e : (s.set i s[j]).take (i + 1) = s.take i ++ [s[j]] := by
        rw [K1c (by rw [Ku]; omega), List.getElem_set_self, List.take_set_of_le (K12 _)]
      rw [e, Kk]
      rfl
/-- slices.DeleteFunc -/
theorem Q4r {l : List Int} {q : Int → Bool} {f : Bool} (P : Int → Prop) (L : Bool × List Int → Int → Int → Option ((Bool × List Int) × Int)) (hl : l.length ≤ 1048576) (hP : ∀ x ∈ l, P x)
    (hs : ∀ (s : List Int) (i j : Nat) (_ : i ≤ j) (h : j < s.length), s.length = l.length → (∀ x ∈ s, P x) → L (f, s) (i : Int) (j : Int) = bif !q s[j] then L (f, s.set i s[j]) ((i + 1 : Nat) : Int) ((j + 1 : Nat) : Int) else L (f, s) (i : Int) ((j + 1 : Nat) : Int))
    (he : ∀ (s : List Int) (i : Nat), s.length = l.length → L (f, s) (i : Int) (s.length : Int) = some ((f, s), (i : Int)))
    {X : Option (Int ⊕ Unit)} (hX : X = some (bif l.any q then .inl (l.findIdx q : Int) else .inr ())) :
    ((X.bind fun r => match r with
      | .inl y => some y
      | .inr z => some (-1)).bind fun r =>
      bif (r == (-1)) then some (f, l) else (L (f, l) r (IntKind.i64.wrap (r + 1))).bind fun r1 =>
        bif decide (0 ≤ r1.2) then bif decide (r1.2 ≤ (r1.1.2.length : Int)) then bif decide (0 ≤ r1.2) then
        bif decide (r1.2 ≤ ((r1.1.2.take (Int.toNat r1.2) ++ (List.replicate (r1.1.2.length - (Int.toNat r1.2)) (0 : Int) ++ r1.1.2.drop r1.1.2.length)).length : Int)) then
        some (r1.1.1, (((r1.1.2.take (Int.toNat r1.2) ++ (List.replicate (r1.1.2.length - (Int.toNat r1.2)) (0 : Int) ++ r1.1.2.drop r1.1.2.length)).take (Int.toNat r1.2)).drop 0))
        else none else none else none else none) = some (f, l.filter fun x => !q x) := by
  rw [hX]
  cases ha : l.any q with
  | false =>
    have e : l.filter (fun x => !q x) = l := List.filter_eq_self.2 fun x hx => by
      have := List.any_eq_false.1 ha x hx
      simpa using this
    rw [e]
    rfl
  | true =>
    have hk : l.findIdx q < l.length := List.findIdx_lt_length.2 (K11.1 ha)
    generalize hkk : l.findIdx q = k at hk
    have hqk : q l[k] = true := by
      subst hkk
      exact List.findIdx_getElem (w := hk)
    have hlt : ∀ j (hj : j < k), q (l[j]'(by omega)) = false := by
      intro j hj
      have := List.not_of_lt_findIdx (p := q) (xs := l) (i := j) (by omega)
      simpa using this
    obtain ⟨s', i', h1, h2, h3, h4⟩ := Q87 l.length P L hs he (l.length - (k + 1)) k (k + 1) l (by omega) (by omega) rfl hP
    have e : l.filter (fun x => !q x) = s'.take i' := by
      rw [h4]
      have e1 : l = l.take k ++ (l[k] :: l.drop (k + 1)) := by rw [← K3 hk, List.take_append_drop]
      have e2 : (l.take k).filter (fun x => !q x) = l.take k := List.filter_eq_self.2 fun x hx => by
        obtain ⟨j, hj, rfl⟩ := List.getElem_of_mem hx
        have hj' : j < k := by simp at hj; omega
        rw [List.getElem_take, hlt j hj']
        rfl
      conv => lhs; rw [e1]
      rw [List.filter_append, e2, K1l, if_neg (by simp [hqk])]
    rw [cond_true, J0, J0, bF (beqF (by omega)), up1 k (by omega), h1, J0]
    simp only [K7]
    rw [gT (by omega), gT (by omega), gT (by omega), gT (by simp; omega), e]
    congr 2
    rw [Kg, List.take_append_of_le_length (by rw [K1s]; omega), List.take_take, Nat.min_self]
theorem Q8d {l : List Int} {n : Int} : (l.any fun x => x == n) = true ↔ n ∈ l := by
  rw [K11]
  constructor
  · rintro ⟨x, hx, e⟩
    rw [beq_iff_eq] at e
    exact e ▸ hx
  · intro h; exact ⟨n, h, by simp⟩
theorem Q8v {a b : List Int} (h : ∀ x, x ∈ a ↔ x ∈ b) : Qq a = Qq b :=
  Q44 _ _ (Qo a) (Qo b) fun x => by rw [Qh, Qh]; exact h x
theorem Q5m (l : List Int) (hl : l.length ≤ 1048576) : F4k (false, l) = some (false, l) := by
  have hlim := J7
  rw [F4kE, cond_false, gT (by simp; omega), Kv]
theorem Qal (p : DProgram) (t10 : Bool × List Int) (t11 t12 : Int) (r : Bool × List Int) (hr : r.2.length ≤ 1000) (d : Nat) : ∀ (i : Nat) (b : Bool) (o : List Int), i + d = r.2.length → o.length + d ≤ 1000000 →
    ∃ b', F9e p (b, o) t10 t11 t12 r (r.2.length : Int) (i : Int) = some (b', (r.2.drop i).foldl (fun o n => insL n o) o) := by
  induction d with
  | zero =>
    intro i b o hi ho
    rw [F9eE, gF (by omega), Ka (by omega)]
    exact ⟨b, rfl⟩
  | succ d ih =>
    intro i b o hi ho
    have hlt : i < r.2.length := by omega
    obtain ⟨f, e⟩ := Qf0 b o (r.2[i]) (by omega)
    have hlen := Q2b (r.2[i]) o
    obtain ⟨b', g⟩ := ih (i + 1) f (insL (r.2[i]) o) (by omega) (by omega)
    rw [F9eE, gT (by omega), gT (by omega), gT (by omega), J2 r.2 _ i hlt, e, J0, up1 i (by omega), J1, g, K3 hlt]
    exact ⟨b', rfl⟩
theorem Qak {p : DProgram} (h : Ok p) (l : Bool × List Int) (hl : l.2.length ≤ 10000) (hn : ∀ x ∈ l.2, 0 ≤ x ∧ x < (Q0 p : Int)) (d : Nat) : ∀ (i : Nat) (b : Bool) (o : List Int), i + d = l.2.length → o.length ≤ 32 * i →
    ∃ b', F98 p (b, o) l (l.2.length : Int) (i : Int) = some (b', ((l.2.drop i).flatMap (Q9 p)).foldl (fun o n => insL n o) o) := by
  have hm := Q6 h.sml
  induction d with
  | zero =>
    intro i b o hi ho
    rw [F98E, gF (by omega), Ka (by omega)]
    exact ⟨b, rfl⟩
  | succ d ih =>
    intro i b o hi ho
    have hlt : i < l.2.length := by omega
    have hx := hn _ (K4 hlt)
    have hlen := Qd h hx
    obtain ⟨f, e⟩ := Q9n h (l.2[i]) (by omega)
    obtain ⟨b2, e2⟩ := Qal p l (l.2.length : Int) (i : Int) (f, Q9 p (l.2[i])) (by simp only; omega) (Q9 p (l.2[i])).length 0 b o (by simp) (by omega)
    have e2' : F9e p (b, o) l (l.2.length : Int) (i : Int) (f, Q9 p (l.2[i])) ((Q9 p (l.2[i])).length : Int) 0 = _ := e2
    have hlen2 := Q5n (Q9 p (l.2[i])) o
    obtain ⟨b', g⟩ := ih (i + 1) b2 ((Q9 p (l.2[i])).foldl (fun o n => insL n o) o) (by omega) (by omega)
    rw [F98E, gT (by omega), gT (by omega), gT (by omega), J2 l.2 _ i hlt, e, J0]
    simp only [e2', Kg, J0]
    rw [up1 i (by omega), J1, g, K3 hlt, K13, List.foldl_append]
    exact ⟨b', rfl⟩
theorem Qc4 {p : DProgram} (h : Ok p) (l : Bool × List Int) (hl : l.2.length ≤ 10000) (hn : ∀ x ∈ l.2, 0 ≤ x ∧ x < (Q0 p : Int)) : ∃ b, Fz p l = some (b, Qq (l.2.flatMap (Q9 p))) := by
  obtain ⟨b, q⟩ := Qak h l hl hn l.2.length 0 true [] (by omega) (by simp)
  have q' : F98 p (true, []) l (l.2.length : Int) 0 = _ := q
  rw [FzE, q', J0, Kg]
  exact ⟨b, rfl⟩
theorem Q1y {p : DProgram} (h : Ok p) (l : List Int) (hn : ∀ x ∈ l, 0 ≤ x ∧ x < (Q0 p : Int)) : ∀ x ∈ l.flatMap (Q9 p), 0 ≤ x ∧ x < (Q0 p : Int) := by
  intro x hx
  obtain ⟨no, hno, hx⟩ := List.mem_flatMap.1 hx
  exact Q2x h (hn no hno) x hx
theorem Q3p {p : DProgram} (h : Ok p) (l : List Int) (hn : ∀ x ∈ l, 0 ≤ x ∧ x < (Q0 p : Int)) : (l.flatMap (Q9 p)).length ≤ 32 * l.length := by
  have hm := Q6 h.sml
  induction l with
  | nil => simp
  | cons a l ih =>
    have h1 := Qd h (hn a Kp)
    have h2 := ih fun x hx => hn x (K8 _ hx)
    simp only [K13, Kj, Ks]
    omega
theorem Q33 (l : Bool × List Int) (n : Int) (hl : l.2.length ≤ 1048576) : F4a l n = some (l.2.any fun x => n == x) := by
  have h := Ja l.2 (fun x => n == x) (fun i => F8n l n (l.2.length : Int) i) (fun i h => by
    rw [F8nE, gT (by omega), gT (by omega), gT (by omega), J2 l.2 _ i h, up1 i (by omega), J1]) (by rw [F8nE, gF (by omega)])
  rw [F4aE, F35E]
  exact Je h
/-- a program and a view of its states -/
structure Sees (p : DProgram) (v : List Int) : Prop where
  ok : Ok p
  len : v.length = Q0 p
  inn : ∀ x ∈ v, 0 ≤ x ∧ x ≤ 32
theorem Q3x {p : DProgram} {v : List Int} (h : Q7 p v = true) (hs : Qa p) (hw : WfP p) : Sees p v := by
  obtain ⟨_, h2, h3⟩ := Q1i h
  simp only [Q7, K5] at h
  exact ⟨Qfj h.1 hs hw, h2, h3⟩
theorem Sees.manyV {p : DProgram} {v : List Int} (h : Sees p v) : 2 ≤ v.length ∧ v.length ≤ 32 := by
  have := Q6 h.ok.sml
  rw [h.len]
  exact this
theorem Sees.clsP {p : DProgram} {v : List Int} (h : Sees p v) (l : Bool × List Int) (hl : l.2.length ≤ 100000) (hi : ∀ x ∈ l.2, 0 ≤ x ∧ x < (Q0 p : Int)) (f : Bool) : F1m (f, v) l = some (false, Qq (clsL v l.2)) := by
  have hm := h.manyV
  have hi' : ∀ x ∈ l.2, 0 ≤ x ∧ x < (v.length : Int) := fun x hx => by rw [h.len]; exact hi x hx
  exact Qb8 (f, v) (by simp only; omega) (by simp only; omega) h.inn l hl hi'
theorem Sees.clsS {p : DProgram} {v : List Int} (h : Sees p v) (l : Bool × List Int) (hl : l.2.length ≤ 100000) (hi : ∀ x ∈ l.2, 0 ≤ x ∧ x < (Q0 p : Int)) (f : Bool) : ∃ b, F1h (f, v) l = some (b, Qq (clsL v l.2)) := by
  have hi' : ∀ x ∈ l.2, 0 ≤ x ∧ x < (v.length : Int) := fun x hx => by rw [h.len]; exact hi x hx
  exact Qai (f, v) l hl hi'
/-- the states of a class -/
def inL (v : List Int) (c : Int) : List Int := ((List.range v.length).filter fun i => v.getD i 0 == c).map Int.ofNat
theorem Qf3 {v : List Int} {c x : Int} : x ∈ inL v c ↔ (0 ≤ x ∧ x < (v.length : Int)) ∧ v.getD x.toNat 0 = c := by
  simp only [inL, Kt, K1m, K21, beq_iff_eq]
  constructor
  · rintro ⟨i, ⟨h1, h2⟩, rfl⟩
    exact ⟨⟨Int.natCast_nonneg _, by simp; omega⟩, by simpa using h2⟩
  · rintro ⟨⟨h1, h2⟩, h3⟩
    exact ⟨x.toNat, ⟨by omega, h3⟩, Int.toNat_of_nonneg h1⟩
theorem Q1x (v : List Int) (c : Int) : (inL v c).length ≤ v.length := by
  rw [inL, Ky]
  refine Kx (K1q _ _) ?_
  simp
theorem Qdi (v : DSight) (hv : v.2.length ≤ 100000) (c : Int) (d : Nat) : ∀ (i : Nat) (b : Bool) (o : List Int), i + d = v.2.length → o.length ≤ i →
    ∃ b', F53 c (b, o) v (v.2.length : Int) (i : Int) = some (b', o ++ ((List.range' i d).filter fun i => v.2.getD i 0 == c).map Int.ofNat) := by
  have hlim := J7
  induction d with
  | zero =>
    intro i b o hi ho
    exact ⟨b, by rw [F53E, gF (by omega)]; simp⟩
  | succ d ih =>
    intro i b o hi ho
    have hlt : i < v.2.length := by omega
    cases hc : (v.2.getD i 0 == c) with
    | true =>
      obtain ⟨b', g1⟩ := ih (i + 1) (b && false) (o ++ [(i : Int)]) (by omega) (by simp; omega)
      rw [F53E, gT (by omega), gT (by omega), gT (by omega), Qk, up1 i (by omega), K1a, K1l, hc, cond_true, gT (by simp; omega), J1, g1]
      exact ⟨b', by simp⟩
    | false =>
      obtain ⟨b', g1⟩ := ih (i + 1) b o (by omega) (by omega)
      rw [F53E, gT (by omega), gT (by omega), gT (by omega), Qk, up1 i (by omega), K1a, K1l, hc, cond_false, J1, g1]
      exact ⟨b', by simp⟩
theorem Qey (v : DSight) (hv : v.2.length ≤ 100000) (c : Int) (d : Nat) : ∀ (i : Nat) (b : Bool) (o : List Int), i + d = v.2.length → o.length ≤ i →
    (∃ b', F53 c (b, o) v (v.2.length : Int) (i : Int) = some (b', o ++ ((List.range' i d).filter fun i => v.2.getD i 0 == c).map Int.ofNat)) ∧ F6z c (false, o) v (v.2.length : Int) (i : Int) = some (false, o ++ ((List.range' i d).filter fun i => v.2.getD i 0 == c).map Int.ofNat) := by
  have hlim := J7
  induction d with
  | zero =>
    intro i b o hi ho
    exact ⟨⟨b, by rw [F53E, gF (by omega)]; simp⟩, by rw [F6zE, gF (by omega)]; simp⟩
  | succ d ih =>
    intro i b o hi ho
    have hlt : i < v.2.length := by omega
    cases hc : (v.2.getD i 0 == c) with
    | true =>
      obtain ⟨⟨b', g1⟩, g2⟩ := ih (i + 1) (b && false) (o ++ [(i : Int)]) (by omega) (by simp; omega)
      constructor
      · rw [F53E, gT (by omega), gT (by omega), gT (by omega), Qk, up1 i (by omega), K1a, K1l, hc, cond_true, gT (by simp; omega), J1, g1]
        exact ⟨b', by simp⟩
      · rw [F6zE, gT (by omega), gT (by omega), gT (by omega), Qk, up1 i (by omega), K1a, K1l, hc, cond_true, gT (by simp; omega), J1, K1r, g2]
        simp
    | false =>
      obtain ⟨⟨b', g1⟩, g2⟩ := ih (i + 1) b o (by omega) (by omega)
      constructor
      · rw [F53E, gT (by omega), gT (by omega), gT (by omega), Qk, up1 i (by omega), K1a, K1l, hc, cond_false, J1, g1]
        exact ⟨b', by simp⟩
      · rw [F6zE, gT (by omega), gT (by omega), gT (by omega), Qk, up1 i (by omega), K1a, K1l, hc, cond_false, J1, g2]
        simp
theorem Qft (v : DSight) (hv : v.2.length ≤ 100000) (c : Int) : ∃ b, F1w v c = some (b, inL v.2 c) := by
  obtain ⟨b, g1⟩ := Qdi v hv c v.2.length 0 true [] (by omega) (by simp)
  have g1' : F53 c (true, []) v (v.2.length : Int) 0 = _ := g1
  rw [F1wE, g1', J0, inL, K1e]
  exact ⟨b, rfl⟩
theorem Q9v (v : DSight) (hv : v.2.length ≤ 100000) (c : Int) : F1t v c = some (false, inL v.2 c) := by
  obtain ⟨_, g2⟩ := Qey v hv c v.2.length 0 true [] (by omega) (by simp)
  have g2' : F6z c (false, []) v (v.2.length : Int) 0 = _ := g2
  rw [F1tE, g2', J0, inL, K1e]
  rfl
theorem Sees.inClass {p : DProgram} {v : List Int} (h : Sees p v) (c : Int) : ∀ x ∈ inL v c, 0 ≤ x ∧ x < (Q0 p : Int) := fun x hx => by
  have := (Qf3.1 hx).1
  rw [h.len] at this
  exact this
/-- the classes J93 a class -/
noncomputable def Q54 (p : DProgram) (v : List Int) (c : Int) : List Int := Qq (clsL v ((inL v c).flatMap (Q9 p)))
theorem Q64 {p : DProgram} (h : Ok p) (v : DSight) (l : Bool × List Int) (hl : l.2.length ≤ 10000) (hn : ∀ x ∈ l.2, 0 ≤ x ∧ x < (Q0 p : Int)) (d : Nat) : ∀ (i : Nat) (o : List Int), i + d = l.2.length → o.length ≤ 32 * i →
    F9j p v (false, o) l (l.2.length : Int) (i : Int) = some (false, o ++ (l.2.drop i).flatMap (Q9 p)) := by
  have hlim := J7
  have hm := Q6 h.sml
  induction d with
  | zero =>
    intro i o hi ho
    rw [F9jE, gF (by omega), Ka (by omega)]
    simp
  | succ d ih =>
    intro i o hi ho
    have hlt : i < l.2.length := by omega
    have hx := hn _ (K4 hlt)
    have hlen := Qd h hx
    rw [F9jE, gT (by omega), gT (by omega), gT (by omega), J2 l.2 _ i hlt, Qcc h _ (by omega), J0, gT (by simp only; omega), up1 i (by omega), J1, Bool.false_and, ih (i + 1) _ (by omega) (by simp; omega), K3 hlt, K13]
    simp
theorem Qa3 {p : DProgram} {v : List Int} (h : Sees p v) (f : Bool) (c : Int) : F3o p (f, v) c = some (false, Q54 p v c) := by
  have hm := h.manyV
  have hil := Q1x v c
  have q := Q64 h.ok (f, v) (false, inL v c) (by simp only; omega) (h.inClass c) (inL v c).length 0 [] (by simp) (by simp)
  have q' : F9j p (f, v) (false, []) (false, inL v c) ((inL v c).length : Int) 0 = _ := q
  have hlen := Q3p h.ok (inL v c) (h.inClass c)
  have e := h.clsP (false, (inL v c).flatMap (Q9 p)) (by simp only; omega) (Q1y h.ok _ (h.inClass c)) f
  rw [F3oE, Q9v (f, v) (by simp only; omega) c, J0]
  simp only [q', J0, Kv, Kg, e]
  rfl
theorem Q6n {v l : List Int} {c : Int} : c ∈ clsL v l ↔ ∃ s ∈ l, v.getD s.toNat 0 = c := Kt
theorem Qb9 (v l : List Int) : Qq (clsL v (Qq l)) = Qq (clsL v l) := Q8v fun x => by
  simp only [Q6n, Qh]
theorem Qdn {p : DProgram} {v : List Int} (h : Sees p v) (f : Bool) (c : Int) : ∃ b, F67 p (f, v) c = some (b, Q54 p v c) := by
  have hm := h.manyV
  have hil := Q1x v c
  obtain ⟨b1, e1⟩ := Qft (f, v) (by simp only; omega) c
  obtain ⟨b2, e2⟩ := Qc4 h.ok (b1, inL v c) (by simp only; omega) (h.inClass c)
  have hlen := Q3p h.ok (inL v c) (h.inClass c)
  have hs := Q2s ((inL v c).flatMap (Q9 p))
  obtain ⟨b3, e3⟩ := h.clsS (b2, Qq ((inL v c).flatMap (Q9 p))) (by simp only; omega) (fun x hx => Q1y h.ok _ (h.inClass c) x ((Qh _ x).1 hx)) f
  rw [F67E, e1, J0]
  simp only [e2, J0, e3, Qb9]
  exact ⟨b3, rfl⟩
theorem Q6p {p : DProgram} {v : List Int} (h : Sees p v) (c : Int) : (Q54 p v c).length ≤ 40 := by
  refine Q25 (Qo _) (n := 40) fun x hx => ?_
  obtain ⟨s, hs, rfl⟩ := Q6n.1 ((Qh _ x).1 hx)
  have h1 := Q1y h.ok _ (h.inClass c) s hs
  have hm := h.len
  have e : v.getD s.toNat 0 = v[s.toNat]'(by omega) := by simp [K1, show s.toNat < v.length by omega]
  rw [e]
  have := h.inn _ (K4 (l := v) (n := s.toNat) (by omega))
  omega
/-- the classes J93 one state -/
noncomputable def ownL (p : DProgram) (v : List Int) (no : Int) : List Int := Qq (clsL v (Q9 p no))
theorem Q8p {p : DProgram} {v : List Int} (h : Sees p v) {no : Int} (hn : 0 ≤ no ∧ no < (Q0 p : Int)) : (ownL p v no).length ≤ 40 := by
  have hm := h.manyV
  have hl := Qd h.ok hn
  have hlen := h.len
  have := Q2s (clsL v (Q9 p no))
  have h2 : (clsL v (Q9 p no)).length = (Q9 p no).length := by simp [clsL]
  show (Qq (clsL v (Q9 p no))).length ≤ 40
  omega
theorem Sees.ownP {p : DProgram} {v : List Int} (h : Sees p v) {no : Int} (hn : 0 ≤ no ∧ no < (Q0 p : Int)) (f g : Bool) : F1m (f, v) (g, Q9 p no) = some (false, ownL p v no) := by
  have hm := h.manyV
  have hl := Qd h.ok hn
  have hlen := h.len
  exact h.clsP (g, Q9 p no) (by simp only; omega) (Q2x h.ok hn) f
theorem Sees.ownS {p : DProgram} {v : List Int} (h : Sees p v) {no : Int} (hn : 0 ≤ no ∧ no < (Q0 p : Int)) (f g : Bool) : ∃ b, F1h (f, v) (g, Q9 p no) = some (b, ownL p v no) := by
  have hm := h.manyV
  have hl := Qd h.ok hn
  have hlen := h.len
  exact h.clsS (g, Q9 p no) (by simp only; omega) (Q2x h.ok hn) f
/-- the states of a class from which a step leads to another class -/
noncomputable def onL (p : DProgram) (v : List Int) (c to : Int) : List Int := (inL v c).filter fun no => (ownL p v no).any fun x => x == to
theorem Qf5 (p : DProgram) (v : List Int) (no to : Int) : ((ownL p v no).any fun x => x == to) = (Q9 p no).any fun n => v.getD n.toNat 0 == to := by
  rw [Bool.eq_iff_iff, Q8d, K11]
  unfold ownL
  rw [Qh, Q6n]
  constructor
  · rintro ⟨s, hs, e⟩; exact ⟨s, hs, by simpa using e⟩
  · rintro ⟨s, hs, e⟩; exact ⟨s, hs, by simpa using e⟩
theorem Q84 {p : DProgram} {v : List Int} (h : Sees p v) (f : Bool) (to : Int) (l : Bool × List Int) (hl : l.2.length ≤ 1048576) (hn : ∀ x ∈ l.2, 0 ≤ x ∧ x < (Q0 p : Int)) : F6y l ((f, v), (to, ())) = some (l.2.any fun n => v.getD n.toNat 0 == to) := by
  have hlen := h.len
  have hX := Ja l.2 (fun n => v.getD n.toNat 0 == to) (fun i => Fag l ((f, v), (to, ())) (l.2.length : Int) i) (fun i hi => by
    have hx := hn _ (K4 hi)
    rw [FagE, gT (by omega), gT (by omega), gT (by omega), J2 l.2 _ i hi, F69E, gT (by omega), gT (by simp only; omega), J0, up1 i (by omega), J1]) (by rw [FagE, gF (by omega)])
  rw [F6yE, F2vE]
  exact Je hX
theorem Q7v {p : DProgram} {v : List Int} (h : Sees p v) (f : Bool) (to no : Int) (hn : 0 ≤ no ∧ no < (Q0 p : Int)) : F3w no p (f, v) to = some (!((ownL p v no).any fun x => x == to)) := by
  have hms := Q6 h.ok.sml
  have hl := Qd h.ok hn
  rw [F3wE, Qcc h.ok _ (by omega), J0, Q84 h f to (false, Q9 p no) (by simp only; omega) (Q2x h.ok hn), J0, Qf5]
theorem Qbh {p : DProgram} {v : List Int} (h : Sees p v) (f : Bool) (to : Int) (l : Bool × List Int) (hl : l.2.length ≤ 1048576) (hn : ∀ x ∈ l.2, 0 ≤ x ∧ x < (Q0 p : Int)) : F25 l (p, ((f, v), (to, ()))) = some (l.1, l.2.filter fun no => (ownL p v no).any fun x => x == to) := by
  have hX := Ja l.2 (fun no => !((ownL p v no).any fun x => x == to)) (fun i => Fa1 l (p, ((f, v), (to, ()))) (l.2.length : Int) i) (fun i hi => by
    rw [Fa1E, gT (by omega), gT (by omega), gT (by omega), J2 l.2 _ i hi, Q7v h f to _ (hn _ (K4 hi)), J0, up1 i (by omega), J1]) (by rw [Fa1E, gF (by omega)])
  have e : l.2.filter (fun no => (ownL p v no).any fun x => x == to) = l.2.filter (fun no => !!((ownL p v no).any fun x => x == to)) := by
    congr 1
    funext x
    rw [Bool.not_not]
  rw [F25E, FiE, e]
  exact Q4r (f := l.1) (fun x => 0 ≤ x ∧ x < (Q0 p : Int)) (fun s i j => F6v s (p, ((f, v), (to, ()))) i j) hl hn (fun s i j hij hj hn2 hP => by
    rw [F6vE, gT (by simp only; omega), gT (by omega), gT (by simp only; omega), J2 s _ j hj, Q7v h f to _ (hP _ (K4 hj)), J0, gT (by omega), gT (by simp only; omega), up1 j (by omega), up1 i (by omega), J1, J1, K7]) (fun s i hn => by rw [F6vE, gF (by simp only; omega)]) hX
theorem Qfg {p : DProgram} {v : List Int} (h : Sees p v) (f : Bool) (c to : Int) : F1e p (f, v) c to = some (false, onL p v c to) := by
  have hm := h.manyV
  have hil := Q1x v c
  rw [F1eE, Q9v (f, v) (by simp only; omega) c, J0, Qbh h f to (false, inL v c) (by simp only; omega) (h.inClass c), J0]
  rfl
theorem Qfx {p : DProgram} {v : List Int} (h : Sees p v) (f : Bool) (c to : Int) : ∃ b, F27 p (f, v) c to = some (b, onL p v c to) := by
  have hlim := J7
  have hm := h.manyV
  have hms := Q6 h.ok.sml
  have hil := Q1x v c
  obtain ⟨b1, e1⟩ := Qft (f, v) (by simp only; omega) c
  have key : ∀ (d i : Nat) (b : Bool) (o : List Int), i + d = (inL v c).length → o.length ≤ i → ∃ b', F5u to p (f, v) (b, o) (b1, inL v c) ((inL v c).length : Int) (i : Int) = some (b', o ++ ((inL v c).drop i).filter fun no => (ownL p v no).any fun x => x == to) := by
    intro d
    induction d with
    | zero =>
      intro i b o hi ho
      rw [F5uE, gF (by omega), Ka (by omega)]
      exact ⟨b, by simp⟩
    | succ d ih =>
      intro i b o hi ho
      have hlt : i < (inL v c).length := by omega
      have hx := h.inClass c _ (K4 hlt)
      obtain ⟨b2, e2⟩ := Q9n h.ok ((inL v c)[i]) (by omega)
      obtain ⟨b3, e3⟩ := h.ownS hx f b2
      have e4 := Q8p h hx
      rw [F5uE, gT (by omega), gT (by omega), gT (by simp only; omega), J2 (inL v c) _ i hlt, e2, J0, e3, J0, Qaj (b3, ownL p v (inL v c)[i]) to (by simp only; omega), J0, up1 i (by omega), K3 hlt, K1l]
      cases hh : (ownL p v (inL v c)[i]).any fun x => x == to with
      | true =>
        obtain ⟨b', g⟩ := ih (i + 1) (b && false) (o ++ [(inL v c)[i]]) (by omega) (by simp; omega)
        rw [cond_true, gT (by simp; omega), J1, g]
        exact ⟨b', by simp⟩
      | false =>
        obtain ⟨b', g⟩ := ih (i + 1) b o (by omega) (by omega)
        rw [cond_false, J1, g]
        exact ⟨b', by simp⟩
  obtain ⟨b3, e3⟩ := key (inL v c).length 0 true [] (by omega) (by simp)
  have e3' : F5u to p (f, v) (true, []) (b1, inL v c) ((inL v c).length : Int) 0 = _ := e3
  rw [F27E, e1, J0]
  simp only [e3', J0, Kg, Kv]
  exact ⟨b3, rfl⟩
theorem Qaq {p : DProgram} {v : List Int} (h : Sees p v) (c to : Int) : (onL p v c to).length ≤ 32 := by
  have := Q1x v c
  have hm := h.manyV
  have h2 : (onL p v c to).length ≤ (inL v c).length := K1q _ _
  omega
/-- the classes J93 each class -/
noncomputable def Q1n (p : DProgram) (v : List Int) : List (List Int) := (List.range (Q1s v).toNat).map fun c : Nat => Q54 p v (c : Int)
theorem Q6e (p : DProgram) (v : List Int) : (Q1n p v).length = (Q1s v).toNat := by simp [Q1n]
theorem Q9i {p : DProgram} {v : List Int} (h : Sees p v) (f : Bool) : ∃ b R, F2h p (f, v) = some (b, R) ∧ R.map Prod.snd = Q1n p v := by
  have hlim := J7
  have hm := h.manyV
  have hc := Q4l v h.inn
  obtain ⟨m, hmm⟩ := Kf hc.1
  have key : ∀ (d i : Nat) (b : Bool) (o : List (Bool × List Int)), i + d = m → o.length = i → ∃ b' R, F9w p (f, v) (b, o) (i : Int) = some (b', R) ∧ R.map Prod.snd = o.map Prod.snd ++ (List.range' i d).map fun c : Nat => Q54 p v (c : Int) := by
    intro d
    induction d with
    | zero =>
      intro i b o hi ho
      exact ⟨b, o, by rw [F9wE, Qbu (f, v) (by simp only; omega) h.inn, J0, gF (by simp only; omega)], by simp⟩
    | succ d ih =>
      intro i b o hi ho
      obtain ⟨b1, e1⟩ := Qdn h f (i : Int)
      obtain ⟨b', R, g1, g2⟩ := ih (i + 1) (b && false) (o ++ [(b1, Q54 p v (i : Int))]) (by omega) (by simp; omega)
      refine ⟨b', R, by rw [F9wE, Qbu (f, v) (by simp only; omega) h.inn, J0, gT (by simp only; omega), e1, J0, gT (by simp; omega), up1 i (by omega), J1, g1], ?_⟩
      rw [g2, K1a]
      simp
  obtain ⟨b', R, g1, g2⟩ := key m 0 true [] (by omega) rfl
  have g1' : F9w p (f, v) (true, []) 0 = _ := g1
  refine ⟨b', R, by rw [F2hE, g1', J0], ?_⟩
  rw [g2, Q1n, hmm, K7, K1e]
  rfl
theorem Q5l {p : DProgram} {v : List Int} (h : Sees p v) (f : Bool) : F2i p (f, v) = some (false, (Q1n p v).map fun l => (false, l)) := by
  have hlim := J7
  have hm := h.manyV
  have hc := Q4l v h.inn
  obtain ⟨m, hmm⟩ := Kf hc.1
  have key : ∀ (d i : Nat) (o : List (Bool × List Int)), i + d = m → o.length = i → F9m p (f, v) (false, o) (Q1s v) (i : Int) = some (false, o ++ (List.range' i d).map fun c : Nat => (false, Q54 p v (c : Int))) := by
    intro d
    induction d with
    | zero =>
      intro i o hi ho
      rw [F9mE, gF (by omega)]
      simp
    | succ d ih =>
      intro i o hi ho
      rw [F9mE, gT (by omega), Qa3 h f, J0, gT (by simp; omega), up1 i (by omega), J1, K1r, ih (i + 1) _ (by omega) (by simp; omega), K1a]
      simp
  have g := key m 0 [] (by omega) rfl
  have g' : F9m p (f, v) (false, []) (Q1s v) 0 = _ := g
  rw [F2iE, Q4c (f, v) (by simp only; omega) (by simp only; omega) h.inn, J0]
  show ((F9m p (f, v) (false, []) (Q1s v) 0).bind fun r1 => some (r1.1, r1.2)) = _
  rw [g', J0, Q1n, hmm, K7, K1e, List.map_map]
  rfl

end Go.Proofs.YtkfnlnohgfpipaaGreat.R
