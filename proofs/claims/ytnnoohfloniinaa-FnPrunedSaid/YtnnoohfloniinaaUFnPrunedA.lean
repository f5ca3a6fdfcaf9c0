/- The plain law of FnPruned: what the two functions compute is the same. -/
import Derived.Test.YtnnoohfloniinaaEFnPruned
import Derived.Laws.MathBits
set_option linter.all false
namespace Go.Proofs.Ytnnoohfloniinaa.R
open Go.Rf
/-- The greatest word of a width. -/
def top (wide : Int) : Int := 2 ^ wide.toNat - 1
theorem top_in {wide : Int} (h : 1 ≤ wide ∧ wide ≤ 64) : 1 ≤ top wide ∧ top wide ≤ 18446744073709551615 := by
  obtain ⟨n, rfl⟩ := Int.eq_ofNat_of_zero_le (show 0 ≤ wide by omega)
  have h1 := pow_le64 (n := n) (by omega)
  have h2 : (2 : Nat) ^ 1 ≤ 2 ^ n := Nat.pow_le_pow_right (by decide) (by omega)
  have e : ((2 : Int) ^ n) = ((2 ^ n : Nat) : Int) := by simp
  simp only [top, Int.toNat_natCast, e]
  omega
theorem l1In_eq (n lo hi : Int) : spec_l1In n lo hi = some (decide (lo ≤ n ∧ n ≤ hi)) := by
  rw [spec_l1In_eq]
  by_cases h : n ≥ lo
  · rw [gT h]; congr 1; apply decide_eq_decide.mpr; omega
  · rw [gF h]; congr 1; symm; apply decide_eq_false; omega
theorem bShr_eq (k : IntKind) (x : Int) (n : Nat) (h : n ≤ k.bits) : bShr k x (n : Int) = x / 2 ^ n := by
  unfold bShr
  rw [show min ((n : Int)).toNat k.bits = n by simp only [Int.toNat_natCast]; omega, Int.fdiv_eq_ediv_of_nonneg _ (Int.le_of_lt (Int.pow_pos (by decide)))]
theorem and_top {wide a : Int} (hw : 1 ≤ wide ∧ wide ≤ 64) (ha : U64 a) : bAnd .u64 a (top wide) = a % (top wide + 1) := by
  obtain ⟨n, rfl⟩ := Int.eq_ofNat_of_zero_le (show 0 ≤ wide by omega)
  obtain ⟨m, rfl⟩ := Int.eq_ofNat_of_zero_le ha.1
  have e : ((2 : Int) ^ n) = ((2 ^ n : Nat) : Int) := by simp
  have hm : m < 2 ^ 64 := by have := ha.2; simp; omega
  have hp := pow_le64 (n := n) (by omega)
  have h0 : 0 < (2 : Nat) ^ n := Nat.two_pow_pos _
  have e2 : top ((n : Nat) : Int) = ((2 ^ n - 1 : Nat) : Int) := by
    simp only [top, Int.toNat_natCast, e]
    omega
  have e3 : top ((n : Nat) : Int) + 1 = ((2 ^ n : Nat) : Int) := by rw [e2]; omega
  rw [e3, e2, bAnd_eq m (2 ^ n - 1) hm (by simp; omega), Nat.and_two_pow_sub_one_eq_mod]
  rfl
/-- Words of a width. -/
def W5 (wide a : Int) : Prop := 0 ≤ a ∧ a ≤ top wide
theorem W5.u64 {wide a : Int} (hw : 1 ≤ wide ∧ wide ≤ 64) (h : W5 wide a) : U64 a := ⟨h.1, by have := h.2; have := top_in hw; omega⟩
inductive TypedV (wide : Int) : List Int → List Int → Prop
  | nil : TypedV wide [] []
  | snoc {ks st : List Int} {k v : Int} : TypedV wide ks st → W5 wide v → (k = 2 → v ≤ 1) → TypedV wide (ks ++ [k]) (st ++ [v])
theorem TypedV.inv {wide : Int} {ks st : List Int} (h : TypedV wide ks st) : (ks = [] ∧ st = []) ∨ ∃ ks' st' k v, ks = ks' ++ [k] ∧ st = st' ++ [v] ∧ TypedV wide ks' st' ∧ W5 wide v ∧ (k = 2 → v ≤ 1) := by
  cases h with
  | nil => exact .inl ⟨rfl, rfl⟩
  | snoc h1 h2 h3 => exact .inr ⟨_, _, _, _, rfl, rfl, h1, h2, h3⟩
theorem TypedV.len {wide : Int} {ks st : List Int} (h : TypedV wide ks st) : ks.length = st.length := by
  induction h with
  | nil => rfl
  | snoc _ _ _ ih => simp [ih]
theorem any_loop {α ρ : Type} (l : List α) (q : α → Bool) (y : ρ) (F : Int → Option (ρ ⊕ Unit))
    (hs : ∀ (i : Nat) (h : i < l.length), F (i : Int) = bif q l[i] then some (.inl y) else F ((i + 1 : Nat) : Int)) (he : F (l.length : Int) = some (.inr ())) : F 0 = some (bif l.any q then .inl y else .inr ()) := by
  have := loop_all l (fun x => !q x) (β := ρ ⊕ Unit) (.inr ()) (.inl y) F (fun i h => by rw [hs i h]; cases q l[i] <;> rfl) he
  rw [this, List.any_eq_not_all_not]
  cases (l.all fun x => !q x) <;> rfl
theorem l1Has (l : Bool × List Int) (n : Int) (hl : l.2.length ≤ 1048576) : spec_l1Has l n = some (l.2.any fun x => x == n) := by
  rw [spec_l1Has_eq, any_loop l.2 (fun x => x == n) true (fun i => spec_l1Has_L0 n l (l.2.length : Int) i) (fun i h => by
    rw [spec_l1Has_L0_eq, gT (by omega), gT (by omega), gT (by omega), getD_at l.2 _ i h, up1 i (by omega), bind_id]) (by rw [spec_l1Has_L0_eq, gF (by omega)]), some_bind]
  cases (l.2.any fun x => x == n) <;> rfl
theorem all_loop {α : Type} (l : List α) (q : α → Bool) (F : Int → Option (Bool ⊕ Unit))
    (hs : ∀ (i : Nat) (h : i < l.length), F (i : Int) = bif !q l[i] then some (.inl false) else F ((i + 1 : Nat) : Int)) (he : F (l.length : Int) = some (.inr ())) : F 0 = some (if l.all q = true then .inr () else .inl false) := by
  have := loop_all l q (β := Bool ⊕ Unit) (.inr ()) (.inl false) F (fun i h => by rw [hs i h]; cases q l[i] <;> rfl) he
  rw [this]
  cases l.all q <;> rfl
theorem getD_nat {α : Type} (l : List α) (z : α) (i : Nat) : l.getD (Int.toNat (i : Int)) z = l.getD i z := by rw [Int.toNat_natCast]
theorem l1All (l : Bool × List Int) (lo hi : Int) (hl : l.2.length ≤ 1048576) : spec_l1All l lo hi = some (l.2.all fun x => decide (lo ≤ x ∧ x ≤ hi)) := by
  rw [spec_l1All_eq, all_loop l.2 (fun x => decide (lo ≤ x ∧ x ≤ hi)) (fun i => spec_l1All_L0 lo hi l (l.2.length : Int) i) (fun i h => by
    rw [spec_l1All_L0_eq, gT (by omega), gT (by omega), gT (by omega), getD_at l.2 _ i h, up1 i (by omega), bind_id, l1In_eq, some_bind]) (by rw [spec_l1All_L0_eq, gF (by omega)]), some_bind]
  cases (l.2.all fun x => decide (lo ≤ x ∧ x ≤ hi)) <;> rfl
/-- a number put into its place in a rising list, unless it is there -/
def insL (n : Int) : List Int → List Int
  | [] => [n]
  | x :: l => if x < n then x :: insL n l else if x = n then x :: l else n :: x :: l
def Rising (l : List Int) : Prop := l.Pairwise (· < ·)
theorem insL_mem (n : Int) (l : List Int) : ∀ x, x ∈ insL n l ↔ x = n ∨ x ∈ l := by
  induction l with
  | nil => intro x; simp [insL]
  | cons y l ih =>
    intro x
    unfold insL
    split
    · rw [List.mem_cons, ih, List.mem_cons]
      constructor
      · rintro (h | h | h)
        · exact .inr (.inl h)
        · exact .inl h
        · exact .inr (.inr h)
      · rintro (h | h | h)
        · exact .inr (.inl h)
        · exact .inl h
        · exact .inr (.inr h)
    · split
      · rename_i h1 h2
        constructor
        · exact .inr
        · rintro (h | h)
          · rw [h, ← h2]; exact List.mem_cons_self
          · exact h
      · rw [List.mem_cons]
theorem insL_rising (n : Int) (l : List Int) (h : Rising l) : Rising (insL n l) := by
  induction l with
  | nil => exact List.pairwise_singleton _ _
  | cons y l ih =>
    obtain ⟨h1, h2⟩ := List.pairwise_cons.1 h
    unfold insL
    split
    · rename_i c
      refine List.pairwise_cons.2 ⟨fun x hx => ?_, ih h2⟩
      rcases (insL_mem n l x).1 hx with rfl | hx
      · exact c
      · exact h1 x hx
    · split
      · exact h
      · rename_i c1 c2
        refine List.pairwise_cons.2 ⟨fun x hx => ?_, h⟩
        rcases List.mem_cons.1 hx with rfl | hx
        · omega
        · have := h1 x hx
          omega
def under (n : Int) (l : List Int) : Nat := (l.takeWhile fun x => decide (x < n)).length
theorem under_le (n : Int) (l : List Int) : under n l ≤ l.length := by
  unfold under
  exact (List.takeWhile_sublist _).length_le
theorem insL_eq (n : Int) (l : List Int) : insL n l = if under n l < l.length ∧ l.getD (under n l) 0 = n then l else l.take (under n l) ++ n :: l.drop (under n l) := by
  induction l with
  | nil => rfl
  | cons x l ih =>
    unfold insL
    by_cases h : x < n
    · have e : under n (x :: l) = under n l + 1 := by simp [under, h]
      rw [if_pos h, ih, e]
      by_cases c : under n l < l.length ∧ l.getD (under n l) 0 = n
      · rw [if_pos c, if_pos ⟨by simp; omega, by simpa using c.2⟩]
      · rw [if_neg c, if_neg (fun hh => c ⟨by have := hh.1; simp at this; omega, by simpa using hh.2⟩)]
        rfl
    · have e : under n (x :: l) = 0 := by simp [under, h]
      rw [if_neg h, e]
      by_cases c : x = n
      · rw [if_pos c, if_pos ⟨by simp, by simpa using c⟩]
      · rw [if_neg c, if_neg (fun hh => c (by simpa using hh.2))]
        rfl
/-- where the search for a place stops -/
theorem under_step (n : Int) (l : List Int) (d : Nat) : ∀ i : Nat, i + d = l.length → (i < l.length ∧ l.getD i 0 < n → under n (l.drop i) = under n (l.drop (i + 1)) + 1) ∧ (¬ (i < l.length ∧ l.getD i 0 < n) → under n (l.drop i) = 0) := by
  intro i hi
  constructor
  · rintro ⟨h1, h2⟩
    have e : l.getD i 0 = l[i] := by simp [List.getD_eq_getElem?_getD, h1]
    rw [e] at h2
    rw [List.drop_eq_getElem_cons h1]
    unfold under
    rw [List.takeWhile_cons, if_pos (by simpa using h2), List.length_cons]
  · intro h
    by_cases h1 : i < l.length
    · have e : l.getD i 0 = l[i] := by simp [List.getD_eq_getElem?_getD, h1]
      have h2 : ¬ l[i] < n := fun hh => h ⟨h1, by rw [e]; exact hh⟩
      rw [List.drop_eq_getElem_cons h1]
      unfold under
      rw [List.takeWhile_cons, if_neg (by simpa using h2)]
      rfl
    · rw [List.drop_of_length_le (by omega)]
      rfl
theorem l1Put_L0 (b : Bool) (l : List Int) (n : Int) (hl : l.length ≤ 1048576) (d : Nat) : ∀ i : Nat, i + d = l.length → spec_l1Put_L0 (b, l) n (i : Int) = some ((i + under n (l.drop i) : Nat) : Int) := by
  induction d with
  | zero =>
    intro i hi
    rw [spec_l1Put_L0_eq, gF (by simp only; omega), List.drop_of_length_le (by omega)]
    rfl
  | succ d ih =>
    intro i hi
    obtain ⟨h1, h2⟩ := under_step n l (d + 1) i hi
    rw [spec_l1Put_L0_eq, gT (by simp only; omega), gT (by omega), gT (by simp only; omega), getD_nat, up1 i (by omega), bind_id]
    by_cases c : l.getD i 0 < n
    · rw [gT c, ih (i + 1) (by omega), h1 ⟨by omega, c⟩]
      congr 2
      omega
    · rw [gF c, h2 (fun h => c h.2)]
      rfl
theorem insL_length (n : Int) (l : List Int) : (insL n l).length ≤ l.length + 1 := by
  induction l with
  | nil => simp [insL]
  | cons x l ih =>
    unfold insL
    split
    · simp only [List.length_cons]; omega
    · split <;> simp
theorem l1PutF (b : Bool) (l : List Int) (n : Int) (hl : l.length ≤ 1000000) : ∃ f, spec_l1Put (b, l) n = some (f, insL n l) ∧ (f = true → b = true ∧ l ≠ []) := by
  have hlim := lim_eq
  have h := l1Put_L0 b l n (by omega) l.length 0 (by omega)
  rw [List.drop_zero, Nat.zero_add] at h
  have h' : spec_l1Put_L0 (b, l) n 0 = _ := h
  have hk := under_le n l
  rw [spec_l1Put_eq, h', some_bind, insL_eq]
  generalize under n l = k at hk
  have hfin : ∀ (x : Option (Bool × List Int)), x = (bif decide (0 ≤ (k : Int)) then
      bif decide ((k : Int) ≤ ((b, l).2.length : Int)) then
      bif decide (([] : List Int).length + (((b, l).2.take (Int.toNat (k : Int))).drop 0).length ≤ lim) then
      bif decide (([] ++ (((b, l).2.take (Int.toNat (k : Int))).drop 0)).length + [n].length ≤ lim) then
      bif decide (0 ≤ (k : Int)) then
      bif decide ((k : Int) ≤ ((b, l).2.length : Int)) then
      bif decide ((([] ++ (((b, l).2.take (Int.toNat (k : Int))).drop 0)) ++ [n]).length + (((b, l).2.take (b, l).2.length).drop (Int.toNat (k : Int))).length ≤ lim) then
      some (false, ((([] ++ (((b, l).2.take (Int.toNat (k : Int))).drop 0)) ++ [n]) ++ (((b, l).2.take (b, l).2.length).drop (Int.toNat (k : Int)))))
      else none else none else none else none else none else none else none) → x = some (false, l.take k ++ n :: l.drop k) := by
    rintro x rfl
    rw [gT (by omega), gT (by simp only; omega), gT (by simp; omega), gT (by simp; omega), gT (by omega), gT (by simp only; omega), gT (by simp; omega)]
    simp
  by_cases c : k < l.length
  · rw [gT (by simp only; omega), gT (by omega), gT (by simp only; omega), getD_nat]
    by_cases c2 : l.getD k 0 = n
    · rw [bT (by rw [beq_iff_eq]; exact c2), if_pos ⟨c, c2⟩]
      exact ⟨b, rfl, fun h => ⟨h, fun e => by rw [e] at c; simp at c⟩⟩
    · rw [bF (beqF c2), if_neg (fun h => c2 h.2)]
      exact ⟨false, hfin _ rfl, by simp⟩
  · rw [gF (by simp only; omega), if_neg (fun h => c h.1)]
    exact ⟨false, hfin _ rfl, by simp⟩
theorem l1Put (b : Bool) (l : List Int) (n : Int) (hl : l.length ≤ 1000000) : ∃ f, spec_l1Put (b, l) n = some (f, insL n l) := by
  obtain ⟨f, e, _⟩ := l1PutF b l n hl
  exact ⟨f, e⟩
/-- a graph's rows, whatever their marks of nil -/
structure Gr (m : Nat) (G : List (List Int)) : Prop where
  len : G.length = m
  inn : ∀ l ∈ G, ∀ w ∈ l, 0 ≤ w ∧ w < (m : Int)
  short : ∀ l ∈ G, l.length ≤ 20000000
  small : m ≤ 10000
def rowAt (X : List (Bool × List Int)) (k : Nat) : List Int := (X.getD k (true, [])).2
/-- what some puts hand to a row -/
def pick (S : List (Nat × Int)) (k : Nat) : List Int := (S.filter fun e => e.1 == k).map Prod.snd
theorem pick_append (S S' : List (Nat × Int)) (k : Nat) : pick (S ++ S') k = pick S k ++ pick S' k := by
  simp [pick]
theorem pick_length (S : List (Nat × Int)) (k : Nat) : (pick S k).length ≤ S.length := by
  rw [pick, List.length_map]
  exact List.length_filter_le _ _
/-- rows, with some puts done -/
structure Did (X X' : List (Bool × List Int)) (S : List (Nat × Int)) : Prop where
  len : X'.length = X.length
  row : ∀ k : Nat, k < X.length → rowAt X' k = rowAt X k ++ pick S k
def Bnd (X : List (Bool × List Int)) (n : Nat) : Prop := ∀ k : Nat, k < X.length → (rowAt X k).length ≤ n
theorem Did.refl (X : List (Bool × List Int)) : Did X X [] := ⟨rfl, fun k _ => by simp [pick]⟩
theorem Did.trans {X X' X'' : List (Bool × List Int)} {S S' : List (Nat × Int)} (h : Did X X' S) (h' : Did X' X'' S') : Did X X'' (S ++ S') := by
  refine ⟨by rw [h'.len, h.len], fun k hk => ?_⟩
  rw [h'.row k (by rw [h.len]; exact hk), h.row k hk, pick_append, List.append_assoc]
theorem Did.bnd {X X' : List (Bool × List Int)} {S : List (Nat × Int)} (h : Did X X' S) {n : Nat} (hb : Bnd X n) : Bnd X' (n + S.length) := by
  intro k hk
  rw [h.len] at hk
  rw [h.row k hk, List.length_append]
  have := hb k hk
  have := pick_length S k
  omega
theorem Did.put {X : List (Bool × List Int)} {k : Nat} (hk : k < X.length) (b : Bool) (z : Int) : Did X (X.set k (b, rowAt X k ++ [z])) [(k, z)] := by
  refine ⟨List.length_set, fun j hj => ?_⟩
  by_cases e : k = j
  · subst e
    simp [rowAt, List.getD_eq_getElem?_getD, hk, pick]
  · have e' : (k == j) = false := by rw [beq_eq_false_iff_ne]; exact e
    simp [rowAt, List.getD_eq_getElem?_getD, List.getElem?_set_ne e, pick, e']
/-- what can be reached along arrows -/
inductive Way (g : Int → List Int) : Int → Int → Prop
  | here (a : Int) : Way g a a
  | step {a b c : Int} : b ∈ g a → Way g b c → Way g a c
theorem Way.trans {g : Int → List Int} {a b c : Int} (h : Way g a b) (h2 : Way g b c) : Way g a c := by
  induction h with
  | here a => exact h2
  | step e _ ih => exact Way.step e (ih h2)
theorem Way.arc {g : Int → List Int} {a b : Int} (h : b ∈ g a) : Way g a b := Way.step h (Way.here b)
theorem Way.snoc {g : Int → List Int} {a b c : Int} (h : Way g a b) (h2 : c ∈ g b) : Way g a c := h.trans (Way.arc h2)
/-- what is closed along arrows keeps its ways in -/
theorem Way.closed {g : Int → List Int} {P : Int → Prop} (hc : ∀ x, P x → ∀ y ∈ g x, P y) {a b : Int} (h : Way g a b) : P a → P b := by
  induction h with
  | here a => exact id
  | step e _ ih => exact fun h => ih (hc _ h _ e)
theorem Way.turn {g r : Int → List Int} (hr : ∀ x y, y ∈ r x → x ∈ g y) {a b : Int} (h : Way r a b) : Way g b a := by
  induction h with
  | here a => exact Way.here a
  | step e _ ih => exact ih.trans (Way.arc (hr _ _ e))
/-- each leads to the other -/
def Scc (g : Int → List Int) (a b : Int) : Prop := Way g a b ∧ Way g b a
theorem Scc.refl (g : Int → List Int) (a : Int) : Scc g a a := ⟨Way.here a, Way.here a⟩
theorem Scc.symm {g : Int → List Int} {a b : Int} (h : Scc g a b) : Scc g b a := ⟨h.2, h.1⟩
theorem Scc.trans {g : Int → List Int} {a b c : Int} (h : Scc g a b) (h2 : Scc g b c) : Scc g a c := ⟨h.1.trans h2.1, h2.2.trans h.2⟩
/-- the least of a part -/
def IsL (g : Int → List Int) (x m : Int) : Prop := Scc g x m ∧ ∀ y, Scc g x y → m ≤ y
theorem IsL.one {g : Int → List Int} {x m k : Int} (h : IsL g x m) (h2 : IsL g x k) : m = k := Int.le_antisymm (h.2 k h2.1) (h2.2 m h.1)
theorem IsL.of {g : Int → List Int} {x y m : Int} (h : IsL g x m) (e : Scc g x y) : IsL g y m := ⟨e.symm.trans h.1, fun z hz => h.2 z (e.trans hz)⟩
structure FinI (g : Int → List Int) (G S : Int → Prop) (o : List Int) : Prop where
  see : ∀ x, S x ↔ (x ∈ o ∨ G x)
  dis : ∀ x ∈ o, ¬ G x
  suc : ∀ x ∈ o, ∀ y ∈ g x, S y
  star : ∀ A z B, o = A ++ z :: B → (∀ w, Way g z w → w ∈ A ∨ w = z) ∨ ∃ y, Scc g z y ∧ y ∉ A ∧ y ≠ z
  nod : o.Nodup
theorem FinI.enter {g : Int → List Int} {G S : Int → Prop} {o : List Int} (h : FinI g G S o) {k : Int} (hk : ¬ S k) : FinI g (fun x => G x ∨ x = k) (fun x => S x ∨ x = k) o := by
  refine ⟨fun x => ?_, fun x hx hc => ?_, fun x hx y hy => Or.inl (h.suc x hx y hy), h.star, h.nod⟩
  · rw [h.see]
    constructor
    · rintro ((a | a) | a)
      · exact Or.inl a
      · exact Or.inr (Or.inl a)
      · exact Or.inr (Or.inr a)
    · rintro (a | a | a)
      · exact Or.inl (Or.inl a)
      · exact Or.inl (Or.inr a)
      · exact Or.inr a
  · rcases hc with hc | hc
    · exact h.dis x hx hc
    · subst hc
      exact hk ((h.see x).2 (Or.inl hx))
theorem FinI.leave {g : Int → List Int} {G S : Int → Prop} {o : List Int} {k : Int} (h : FinI g (fun x => G x ∨ x = k) S o) (hg : ¬ G k) (hs : ∀ y ∈ g k, S y) (hw : ∀ x, G x → Way g x k) : FinI g G S (o ++ [k]) := by
  have hko : k ∉ o := fun c => h.dis k c (Or.inr rfl)
  refine ⟨fun x => ?_, fun x hx hc => ?_, fun x hx y hy => ?_, fun A z B e => ?_, ?_⟩
  · rw [h.see, List.mem_append, List.mem_singleton]
    constructor
    · rintro (a | a | a)
      · exact Or.inl (Or.inl a)
      · exact Or.inr a
      · exact Or.inl (Or.inr a)
    · rintro ((a | a) | a)
      · exact Or.inl a
      · exact Or.inr (Or.inr a)
      · exact Or.inr (Or.inl a)
  · rw [List.mem_append, List.mem_singleton] at hx
    rcases hx with hx | hx
    · exact h.dis x hx (Or.inl hc)
    · subst hx
      exact hg hc
  · rw [List.mem_append, List.mem_singleton] at hx
    rcases hx with hx | hx
    · exact h.suc x hx y hy
    · subst hx
      exact hs y hy
  · rcases List.eq_nil_or_concat B with hB | ⟨B2, b, hB⟩
    · subst hB
      obtain ⟨e1, e2⟩ := List.append_inj' e rfl
      simp only [List.cons.injEq, and_true] at e2
      subst e1 e2
      by_cases c : ∃ y, G y ∧ Way g k y
      · obtain ⟨y, hy, hy2⟩ := c
        refine Or.inr ⟨y, ⟨hy2, hw y hy⟩, fun q => h.dis y q (Or.inl hy), fun q => ?_⟩
        subst q
        exact hg hy
      · refine Or.inl fun w hkw => ?_
        have key : Way g k w ∧ (w ∈ o ∨ w = k) := Way.closed (P := fun x => Way g k x ∧ (x ∈ o ∨ x = k)) (fun x hx y hy => by
          have hky := hx.1.snoc hy
          have hsy : S y := by
            rcases hx.2 with q | q
            · exact h.suc x q y hy
            · subst q
              exact hs y hy
          refine ⟨hky, ?_⟩
          rcases (h.see y).1 hsy with q | q | q
          · exact Or.inl q
          · exact absurd ⟨y, q, hky⟩ c
          · exact Or.inr q) hkw ⟨Way.here k, Or.inr rfl⟩
        exact key.2
    · subst hB
      rw [List.concat_eq_append] at e
      have e' : o ++ [k] = (A ++ z :: B2) ++ [b] := by rw [e]; simp
      obtain ⟨e1, _⟩ := List.append_inj' e' rfl
      exact h.star A z B2 e1
  · rw [List.nodup_append]
    refine ⟨h.nod, List.pairwise_singleton _ _, fun a ha b hb => ?_⟩
    rw [List.mem_singleton] at hb
    rintro rfl
    subst hb
    exact hko ha
structure ColI (g : Int → List Int) (r : Int) (Base G S : Int → Prop) (o : List Int) : Prop where
  see : ∀ x, S x ↔ (Base x ∨ x ∈ o ∨ G x)
  new : ∀ x, x ∈ o ∨ G x → ¬ Base x ∧ Way g r x
  suc : ∀ x ∈ o, ∀ y ∈ g x, S y
theorem ColI.enter {g : Int → List Int} {r : Int} {Base G S : Int → Prop} {o : List Int} (h : ColI g r Base G S o) {k : Int} (hk : ¬ S k) (hr : Way g r k) : ColI g r Base (fun x => G x ∨ x = k) (fun x => S x ∨ x = k) o := by
  refine ⟨fun x => ?_, fun x hx => ?_, fun x hx y hy => Or.inl (h.suc x hx y hy)⟩
  · rw [h.see]
    constructor
    · rintro ((a | a | a) | a)
      · exact Or.inl a
      · exact Or.inr (Or.inl a)
      · exact Or.inr (Or.inr (Or.inl a))
      · exact Or.inr (Or.inr (Or.inr a))
    · rintro (a | a | a | a)
      · exact Or.inl (Or.inl a)
      · exact Or.inl (Or.inr (Or.inl a))
      · exact Or.inl (Or.inr (Or.inr a))
      · exact Or.inr a
  · rcases hx with a | a | a
    · exact h.new x (Or.inl a)
    · exact h.new x (Or.inr a)
    · subst a
      exact ⟨fun c => hk ((h.see x).2 (Or.inl c)), hr⟩
theorem ColI.leave {g : Int → List Int} {r : Int} {Base G S : Int → Prop} {o : List Int} {k : Int} (h : ColI g r Base (fun x => G x ∨ x = k) S o) (hs : ∀ y ∈ g k, S y) : ColI g r Base G S (o ++ [k]) := by
  refine ⟨fun x => ?_, fun x hx => ?_, fun x hx y hy => ?_⟩
  · rw [h.see, List.mem_append, List.mem_singleton]
    constructor
    · rintro (a | a | a | a)
      · exact Or.inl a
      · exact Or.inr (Or.inl (Or.inl a))
      · exact Or.inr (Or.inr a)
      · exact Or.inr (Or.inl (Or.inr a))
    · rintro (a | (a | a) | a)
      · exact Or.inl a
      · exact Or.inr (Or.inl a)
      · exact Or.inr (Or.inr (Or.inr a))
      · exact Or.inr (Or.inr (Or.inl a))
  · rw [List.mem_append, List.mem_singleton] at hx
    rcases hx with (a | a) | a
    · exact h.new x (Or.inl a)
    · exact h.new x (Or.inr (Or.inr a))
    · exact h.new x (Or.inr (Or.inl a))
  · rw [List.mem_append, List.mem_singleton] at hx
    rcases hx with a | a
    · exact h.suc x a y hy
    · subst a
      exact hs y hy
/-- a function with another value at one place -/
def updI (f : Int → Int) (k v : Int) : Int → Int := fun x => if x = k then v else f x
theorem updI_same (f : Int → Int) (k v : Int) : updI f k v k = v := if_pos rfl
theorem updI_other (f : Int → Int) {k x : Int} (v : Int) (h : ¬ x = k) : updI f k v x = f x := if_neg h
/-- the walk with a stack: what holds between calls (G: the points that are being visited) -/
structure TarI (g : Int → List Int) (G : Int → Prop) (fo pa : Int → Int) (st : List Int) (vis : Int) : Prop where
  fr : ∀ x, 0 ≤ fo x ∧ fo x ≤ vis
  see : ∀ x, fo x ≠ 0 ↔ (0 ≤ pa x ∨ x ∈ st)
  dis : ∀ x ∈ st, pa x < 0
  nn : ∀ x ∈ st, 0 ≤ x
  inc : st.Pairwise fun a b => fo a < fo b
  gs : ∀ x, G x → x ∈ st
  cl : ∀ x, 0 ≤ pa x → ∀ y ∈ g x, 0 ≤ pa y
  val : ∀ x, 0 ≤ pa x → IsL g x (pa x)
  blk : ∀ x ∈ st, ¬ G x → (∀ y ∈ g x, fo y ≠ 0) ∧ ∃ y ∈ st, fo y < fo x ∧ Way g x y
theorem TarI.enter {g : Int → List Int} {G : Int → Prop} {fo pa : Int → Int} {st : List Int} {vis v : Int} (h : TarI g G fo pa st vis) (hv : fo v = 0) (hv0 : 0 ≤ v) : TarI g (fun x => G x ∨ x = v) (updI fo v (vis + 1)) pa (st ++ [v]) (vis + 1) := by
  have hvis := h.fr v
  have hns : v ∉ st := fun c => (h.see v).2 (Or.inr c) hv
  have hne : ∀ x ∈ st, ¬ x = v := fun x hx e => by
    subst e
    exact hns hx
  have hup : ∀ y, fo y ≠ 0 → updI fo v (vis + 1) y ≠ 0 := fun y hy => by
    by_cases c : y = v
    · subst c
      exact absurd hv hy
    · rwa [updI_other _ _ c]
  refine ⟨fun x => ?_, fun x => ?_, fun x hx => ?_, fun x hx => ?_, ?_, fun x hx => ?_, h.cl, h.val, fun x hx hg => ?_⟩
  · by_cases c : x = v
    · subst c
      rw [updI_same]
      omega
    · rw [updI_other _ _ c]
      have := h.fr x
      omega
  · by_cases c : x = v
    · subst c
      rw [updI_same]
      exact ⟨fun _ => Or.inr (by simp), fun _ => by omega⟩
    · rw [updI_other _ _ c, h.see, List.mem_append, List.mem_singleton]
      constructor
      · rintro (a | a)
        · exact Or.inl a
        · exact Or.inr (Or.inl a)
      · rintro (a | a | a)
        · exact Or.inl a
        · exact Or.inr a
        · exact absurd a c
  · rw [List.mem_append, List.mem_singleton] at hx
    rcases hx with hx | hx
    · exact h.dis x hx
    · subst hx
      rcases Int.lt_or_le (pa x) 0 with c | c
      · exact c
      · exact absurd hv ((h.see x).2 (Or.inl c))
  · rw [List.mem_append, List.mem_singleton] at hx
    rcases hx with hx | hx
    · exact h.nn x hx
    · omega
  · rw [List.pairwise_append]
    refine ⟨h.inc.imp_of_mem fun {a b} ha hb hab => ?_, List.pairwise_singleton _ _, fun a ha b hb => ?_⟩
    · rw [updI_other _ _ (hne a ha), updI_other _ _ (hne b hb)]
      exact hab
    · rw [List.mem_singleton] at hb
      subst hb
      rw [updI_other _ _ (hne a ha), updI_same]
      have := h.fr a
      omega
  · rw [List.mem_append, List.mem_singleton]
    rcases hx with hx | hx
    · exact Or.inl (h.gs x hx)
    · exact Or.inr hx
  · rw [List.mem_append, List.mem_singleton] at hx
    rcases hx with hx | hx
    · obtain ⟨h1, y, h2, h3, h4⟩ := h.blk x hx (fun c => hg (Or.inl c))
      refine ⟨fun z hz => hup z (h1 z hz), y, List.mem_append_left _ h2, ?_, h4⟩
      rw [updI_other _ _ (hne y h2), updI_other _ _ (hne x hx)]
      exact h3
    · exact absurd (Or.inr hx) hg
/-- within a visit: some arrows are done -/
structure TarL (g : Int → List Int) (G : Int → Prop) (v : Int) (S0 : List Int) (fo0 lo0 : Int → Int) (vis0 : Int) (fo lo pa : Int → Int) (st : List Int) (vis : Int) (done : List Int) : Prop where
  inv : TarI g (fun x => G x ∨ x = v) fo pa st vis
  gs0 : ∀ x, G x → x ∈ S0
  stk : ∃ M, st = S0 ++ v :: M ∧ ∀ x ∈ M, Way g v x ∧ ∀ y ∈ g x, y ∈ S0 → lo v ≤ fo y
  keep : ∀ x, fo0 x ≠ 0 → fo x = fo0 x ∧ lo x = lo0 x
  fv : vis0 < fo v
  vs : vis0 ≤ vis
  lv : lo v ≤ fo v
  low : ∃ u ∈ st, fo u = lo v ∧ Way g v u
  dn : ∀ w ∈ done, fo w ≠ 0 ∧ (w ∈ S0 → lo v ≤ fo w)
/-- behind a visit -/
structure TarP (g : Int → List Int) (G : Int → Prop) (v : Int) (S0 : List Int) (fo0 lo0 : Int → Int) (vis0 : Int) (fo lo pa : Int → Int) (st : List Int) (vis : Int) : Prop where
  inv : TarI g G fo pa st vis
  keep : ∀ x, fo0 x ≠ 0 → fo x = fo0 x ∧ lo x = lo0 x
  fv : vis0 < fo v
  vs : vis0 ≤ vis
  out : ∃ N, st = S0 ++ N ∧ (∀ x ∈ N, Way g v x ∧ ∀ y ∈ g x, y ∈ S0 → lo v ≤ fo y) ∧ ((N = [] ∧ fo v ≤ lo v) ∨ ∃ u ∈ st, fo u = lo v ∧ Way g v u)
theorem TarL.start {g : Int → List Int} {G : Int → Prop} {fo lo pa : Int → Int} {st : List Int} {vis v : Int} (h : TarI g G fo pa st vis) (hv : fo v = 0) (hv0 : 0 ≤ v) : TarL g G v st fo lo vis (updI fo v (vis + 1)) (updI lo v (vis + 1)) pa (st ++ [v]) (vis + 1) [] := by
  refine ⟨h.enter hv hv0, h.gs, ⟨[], rfl, fun x hx => by cases hx⟩, fun x hx => ?_, ?_, by omega, ?_, ⟨v, by simp, ?_, Way.here v⟩, fun w hw => by cases hw⟩
  · have : ¬ x = v := fun e => hx (by rw [e]; exact hv)
    exact ⟨updI_other _ _ this, updI_other _ _ this⟩
  · rw [updI_same]; omega
  · rw [updI_same, updI_same]; omega
  · rw [updI_same, updI_same]
theorem TarL.skip {g : Int → List Int} {G : Int → Prop} {fo0 lo0 fo lo pa : Int → Int} {S0 st done : List Int} {vis0 vis v w : Int} (h : TarL g G v S0 fo0 lo0 vis0 fo lo pa st vis done) (hp : 0 ≤ pa w) : TarL g G v S0 fo0 lo0 vis0 fo lo pa st vis (w :: done) := by
  refine { h with dn := fun x hx => ?_ }
  rcases List.mem_cons.1 hx with rfl | hx
  · refine ⟨(h.inv.see x).2 (Or.inl hp), fun hs => ?_⟩
    obtain ⟨M, e, _⟩ := h.stk
    have := h.inv.dis x (by rw [e]; exact List.mem_append_left _ hs)
    omega
  · exact h.dn x hx
theorem TarL.seen {g : Int → List Int} {G : Int → Prop} {fo0 lo0 fo lo pa : Int → Int} {S0 st done : List Int} {vis0 vis v w : Int} (h : TarL g G v S0 fo0 lo0 vis0 fo lo pa st vis done) (hw : w ∈ g v) (h1 : fo w ≠ 0) (hp : pa w < 0) (hv0 : fo0 v = 0) :
    TarL g G v S0 fo0 lo0 vis0 fo (updI lo v (min (lo v) (fo w))) pa st vis (w :: done) := by
  obtain ⟨M, e, hM⟩ := h.stk
  have hlv := h.lv
  refine ⟨h.inv, h.gs0, ⟨M, e, fun x hx => ⟨(hM x hx).1, fun y hy hs => ?_⟩⟩, fun x hx => ?_, h.fv, h.vs, ?_, ?_, fun x hx => ?_⟩
  · rw [updI_same]
    have := (hM x hx).2 y hy hs
    omega
  · have : ¬ x = v := fun e => hx (by rw [e]; exact hv0)
    rw [updI_other _ _ this]
    exact h.keep x hx
  · rw [updI_same]
    omega
  · rw [updI_same]
    rcases Int.le_total (lo v) (fo w) with c | c
    · obtain ⟨u, h2, h3, h4⟩ := h.low
      exact ⟨u, h2, by omega, h4⟩
    · refine ⟨w, ?_, by omega, Way.arc hw⟩
      rcases (h.inv.see w).1 h1 with q | q
      · omega
      · exact q
  · rw [updI_same]
    rcases List.mem_cons.1 hx with rfl | hx
    · exact ⟨h1, fun _ => by omega⟩
    · have := h.dn x hx
      exact ⟨this.1, fun q => by have := this.2 q; omega⟩
theorem TarL.call {g : Int → List Int} {G : Int → Prop} {fo0 lo0 fo lo pa fo2 lo2 pa2 : Int → Int} {S0 st done st2 : List Int} {vis0 vis vis2 v w : Int} (h : TarL g G v S0 fo0 lo0 vis0 fo lo pa st vis done) (hw : w ∈ g v) (h1 : fo w = 0) (hv0 : fo0 v = 0)
    (p : TarP g (fun x => G x ∨ x = v) w st fo lo vis fo2 lo2 pa2 st2 vis2) : TarL g G v S0 fo0 lo0 vis0 fo2 (updI lo2 v (min (lo2 v) (lo2 w))) pa2 st2 vis2 (w :: done) := by
  obtain ⟨M, e, hM⟩ := h.stk
  obtain ⟨N, e2, hN, hout⟩ := p.out
  have hlv := h.lv
  have hfv := h.fv
  have hvs := h.vs
  have hvs2 := p.vs
  have hpfv := p.fv
  have hvr := h.inv.fr v
  have hvv : v ∈ st := by rw [e]; simp
  have hfv0 : fo v ≠ 0 := (h.inv.see v).2 (Or.inr hvv)
  obtain ⟨k1, k2⟩ := p.keep v hfv0
  have kst : ∀ x ∈ st, fo2 x = fo x ∧ lo2 x = lo x := fun x hx => p.keep x ((h.inv.see x).2 (Or.inr hx))
  have hS : ∀ y, y ∈ S0 → y ∈ st := fun y hy => by rw [e]; exact List.mem_append_left _ hy
  refine ⟨p.inv, h.gs0, ⟨M ++ N, by rw [e2, e]; simp, fun x hx => ?_⟩, fun x hx => ?_, by omega, by omega, ?_, ?_, fun x hx => ?_⟩
  · rw [updI_same, k2]
    rcases List.mem_append.1 hx with hx | hx
    · refine ⟨(hM x hx).1, fun y hy hs => ?_⟩
      have a := (hM x hx).2 y hy hs
      have b := (kst y (hS y hs)).1
      omega
    · refine ⟨Way.step hw (hN x hx).1, fun y hy hs => ?_⟩
      have a := (hN x hx).2 y hy (hS y hs)
      omega
  · have hne : ¬ x = v := fun e => hx (by rw [e]; exact hv0)
    obtain ⟨a1, a2⟩ := h.keep x hx
    obtain ⟨b1, b2⟩ := p.keep x (by rw [a1]; exact hx)
    rw [updI_other _ _ hne, b1, b2, a1, a2]
    exact ⟨rfl, rfl⟩
  · rw [updI_same, k2, k1]
    omega
  · rw [updI_same, k2]
    have old : ∃ u ∈ st2, fo2 u = lo v ∧ Way g v u := by
      obtain ⟨u, h2, h3, h4⟩ := h.low
      exact ⟨u, by rw [e2]; exact List.mem_append_left _ h2, by rw [(kst u h2).1]; exact h3, h4⟩
    rcases Int.le_total (lo v) (lo2 w) with c | c
    · rw [Int.min_eq_left c]
      exact old
    · rw [Int.min_eq_right c]
      rcases hout with ⟨_, q⟩ | ⟨u, q1, q2, q3⟩
      · have : lo2 w = lo v := by omega
        rw [this]
        exact old
      · exact ⟨u, q1, q2, Way.step hw q3⟩
  · rw [updI_same, k2]
    rcases List.mem_cons.1 hx with rfl | hx
    · refine ⟨by omega, fun hs => ?_⟩
      exact absurd h1 ((h.inv.see x).2 (Or.inr (hS x hs)))
    · obtain ⟨a1, a2⟩ := h.dn x hx
      obtain ⟨b1, b2⟩ := p.keep x a1
      rw [b1]
      exact ⟨a1, fun q => by have := a2 q; omega⟩
/-- a visit ends, and its point stays on the stack -/
theorem TarL.stay {g : Int → List Int} {G : Int → Prop} {fo0 lo0 fo lo pa : Int → Int} {S0 st done : List Int} {vis0 vis v : Int} (h : TarL g G v S0 fo0 lo0 vis0 fo lo pa st vis done) (hd : ∀ y ∈ g v, y ∈ done) (hl : lo v < fo v) : TarP g G v S0 fo0 lo0 vis0 fo lo pa st vis := by
  obtain ⟨M, e, hM⟩ := h.stk
  refine ⟨{ h.inv with gs := fun x hx => h.inv.gs x (Or.inl hx), blk := fun x hx hg => ?_ }, h.keep, h.fv, h.vs, ⟨v :: M, e, fun x hx => ?_, Or.inr h.low⟩⟩
  · by_cases c : x = v
    · subst c
      obtain ⟨u, h2, h3, h4⟩ := h.low
      exact ⟨fun y hy => (h.dn y (hd y hy)).1, u, h2, by omega, h4⟩
    · exact h.inv.blk x hx (fun q => q.elim hg c)
  · rcases List.mem_cons.1 hx with rfl | hx
    · exact ⟨Way.here x, fun y hy hs => (h.dn y (hd y hy)).2 hs⟩
    · exact hM x hx
/-- a visit ends, and its part is taken off the stack -/
theorem TarL.pop {g : Int → List Int} {G : Int → Prop} {fo0 lo0 fo lo pa : Int → Int} {S0 M done : List Int} {vis0 vis v m : Int} (h : TarL g G v S0 fo0 lo0 vis0 fo lo pa (S0 ++ v :: M) vis done) (hd : ∀ y ∈ g v, y ∈ done) (hl : fo v ≤ lo v) (hm : m ∈ v :: M) (hle : ∀ x ∈ v :: M, m ≤ x)
    {pa2 : Int → Int} (hp1 : ∀ x ∈ v :: M, pa2 x = m) (hp2 : ∀ x, x ∉ v :: M → pa2 x = pa x) : TarP g G v S0 fo0 lo0 vis0 fo lo pa2 S0 vis := by
  obtain ⟨M2, e, hM⟩ := h.stk
  obtain rfl : M = M2 := by simpa using e
  obtain ⟨i1, i2, i3⟩ := List.pairwise_append.1 h.inv.inc
  rw [List.pairwise_cons] at i2
  have hvN : ∀ x ∈ v :: M, fo v ≤ fo x := fun x hx => by
    rcases List.mem_cons.1 hx with rfl | hx
    · exact Int.le_refl _
    · exact Int.le_of_lt (i2.1 x hx)
  have dj : ∀ x ∈ S0, x ∉ v :: M := fun x hx c => by
    have := i3 x hx x c
    omega
  have mem : ∀ x ∈ v :: M, x ∈ S0 ++ v :: M := fun x hx => List.mem_append_right _ hx
  have edge : ∀ x ∈ v :: M, ∀ y ∈ g x, 0 ≤ pa y ∨ y ∈ v :: M := by
    intro x hx y hy
    have hfy : fo y ≠ 0 ∧ (y ∈ S0 → lo v ≤ fo y) := by
      rcases List.mem_cons.1 hx with rfl | hx2
      · exact h.dn y (hd y hy)
      · have ng : ¬ (G x ∨ x = v) := by
          rintro (c | c)
          · exact dj x (h.gs0 x c) hx
          · subst c
            have := i2.1 x hx2
            omega
        exact ⟨(h.inv.blk x (mem x hx) ng).1 y hy, (hM x hx2).2 y hy⟩
    rcases (h.inv.see y).1 hfy.1 with c | c
    · exact Or.inl c
    · rcases List.mem_append.1 c with c | c
      · have a := hfy.2 c
        have b := i3 y c v (by simp)
        omega
      · exact Or.inr c
  have clo : ∀ x, Way g v x → 0 ≤ pa x ∨ x ∈ v :: M := fun x hw => Way.closed (P := fun x => 0 ≤ pa x ∨ x ∈ v :: M) (fun x hx y hy => by
    rcases hx with hx | hx
    · exact Or.inl (h.inv.cl x hx y hy)
    · exact edge x hx y hy) hw (Or.inr (by simp))
  have down : ∀ x ∈ v :: M, Way g v x := fun x hx => by
    rcases List.mem_cons.1 hx with rfl | hx
    · exact Way.here x
    · exact (hM x hx).1
  have up : ∀ (n : Nat) (x : Int), (fo x).toNat = n → x ∈ v :: M → Way g x v := by
    intro n
    induction n using Nat.strongRecOn with
    | _ n ih =>
      intro x hn hx
      by_cases c : x = v
      · subst c
        exact Way.here x
      · have ng : ¬ (G x ∨ x = v) := by
          rintro (q | q)
          · exact dj x (h.gs0 x q) hx
          · exact c q
        obtain ⟨_, y, h2, h3, h4⟩ := h.inv.blk x (mem x hx) ng
        have hy : y ∈ v :: M := by
          rcases clo y ((down x hx).trans h4) with q | q
          · have := h.inv.dis y h2
            omega
          · exact q
        have f1 := h.inv.fr y
        have f2 := h.inv.fr x
        exact h4.trans (ih _ (by omega) y rfl hy)
  have scc1 : ∀ x ∈ v :: M, Scc g v x := fun x hx => ⟨down x hx, up _ x rfl hx⟩
  have scc2 : ∀ x, Scc g v x → x ∈ v :: M := fun x hs => by
    rcases clo x hs.1 with q | q
    · have a : 0 ≤ pa v := Way.closed (P := fun x => 0 ≤ pa x) (fun x hx y hy => h.inv.cl x hx y hy) hs.2 q
      have b := h.inv.dis v (mem v (by simp))
      omega
    · exact q
  have m0 : 0 ≤ m := h.inv.nn m (mem m hm)
  have isl : ∀ x ∈ v :: M, IsL g x m := fun x hx => ⟨(scc1 x hx).symm.trans (scc1 m hm), fun y hy => hle y (scc2 y ((scc1 x hx).trans hy))⟩
  have pos : ∀ x, 0 ≤ pa x → 0 ≤ pa2 x := fun x hx => by
    by_cases c : x ∈ v :: M
    · rw [hp1 x c]; exact m0
    · rw [hp2 x c]; exact hx
  refine ⟨⟨h.inv.fr, fun x => ?_, fun x hx => ?_, fun x hx => h.inv.nn x (List.mem_append_left _ hx), i1, h.gs0, fun x hx y hy => ?_, fun x hx => ?_, fun x hx hg => ?_⟩, h.keep, h.fv, h.vs, ⟨[], by simp, (fun x hx => by cases hx), Or.inl ⟨rfl, hl⟩⟩⟩
  · rw [h.inv.see x, List.mem_append]
    by_cases c : x ∈ v :: M
    · rw [hp1 x c]
      exact ⟨fun _ => Or.inl m0, fun _ => Or.inr (Or.inr c)⟩
    · rw [hp2 x c]
      constructor
      · rintro (a | a | a)
        · exact Or.inl a
        · exact Or.inr a
        · exact absurd a c
      · rintro (a | a)
        · exact Or.inl a
        · exact Or.inr (Or.inl a)
  · rw [hp2 x (dj x hx)]
    exact h.inv.dis x (List.mem_append_left _ hx)
  · by_cases c : x ∈ v :: M
    · rcases edge x c y hy with q | q
      · exact pos y q
      · rw [hp1 y q]; exact m0
    · rw [hp2 x c] at hx
      exact pos y (h.inv.cl x hx y hy)
  · by_cases c : x ∈ v :: M
    · rw [hp1 x c]
      exact isl x c
    · rw [hp2 x c] at hx ⊢
      exact h.inv.val x hx
  · have ng : ¬ (G x ∨ x = v) := by
      rintro (q | q)
      · exact hg q
      · subst q
        exact dj x hx (by simp)
    obtain ⟨b1, y, b2, b3, b4⟩ := h.inv.blk x (List.mem_append_left _ hx) ng
    refine ⟨b1, y, ?_, b3, b4⟩
    rcases List.mem_append.1 b2 with q | q
    · exact q
    · have := i3 x hx y q
      omega
/-- nothing is left on the stack where nothing is being visited -/
theorem TarI.empty {g : Int → List Int} {fo pa : Int → Int} {st : List Int} {vis : Int} (h : TarI g (fun _ => False) fo pa st vis) : st = [] := by
  cases st with
  | nil => rfl
  | cons a l =>
    obtain ⟨_, y, h2, h3, _⟩ := h.blk a (by simp) (fun c => c)
    have := (List.pairwise_cons.1 h.inc).1
    rcases List.mem_cons.1 h2 with rfl | h2
    · omega
    · have := this y h2
      omega
/-- the place from which choices are read: what is known of it -/
def CurOk (c : Dl1Cur) (B : Int) : Prop := c.1.2.length ≤ 1048576 ∧ (∀ x ∈ c.1.2, 0 ≤ x ∧ x ≤ 255) ∧ 0 ≤ c.2.1 ∧ c.2.1 ≤ B
theorem CurOk.mono {c : Dl1Cur} {B C : Int} (h : CurOk c B) (hb : B ≤ C) : CurOk c C := ⟨h.1, h.2.1, h.2.2.1, Int.le_trans h.2.2.2 hb⟩
theorem top8 : top 8 = 255 := by decide
theorem byte_of (s : Int) (hs : 0 ≤ s ∧ s < 18446744073709551616) : ∃ b, IntKind.i64.wrap (bAnd .u64 (bShr .u64 s 40) 255) = b ∧ 0 ≤ b ∧ b ≤ 255 := by
  have e1 : bShr .u64 s 40 = s / 2 ^ 40 := bShr_eq .u64 s 40 (by decide)
  have h1 : 0 ≤ s / 2 ^ 40 := Int.ediv_nonneg hs.1 (by decide)
  have h2 : s / 2 ^ 40 ≤ s := Int.ediv_le_self _ hs.1
  have e2 : bAnd .u64 (s / 2 ^ 40) 255 = s / 2 ^ 40 % 256 := by
    rw [← top8, and_top (by omega) ⟨h1, by omega⟩, top8]
    rfl
  refine ⟨s / 2 ^ 40 % 256, ?_, by omega, by omega⟩
  rw [e1, e2, wr (by omega)]
theorem cur_next (c : Dl1Cur) (B : Int) (h : CurOk c B) (hB : B ≤ 1000000000000) : ∃ c' b, spec_l1Cur_next c.1 c.2.1 c.2.2 = some (c', b) ∧ CurOk c' (B + 1) ∧ 0 ≤ b ∧ b ≤ 255 := by
  obtain ⟨h1, h2, h3, h4⟩ := h
  have hw : ∀ n : Int, 0 ≤ IntKind.u64.wrap n ∧ IntKind.u64.wrap n < 18446744073709551616 := fun n => by rw [wru_mod]; omega
  rw [spec_l1Cur_next_eq]
  by_cases c1 : c.2.1 < (c.1.2.length : Int)
  · have hx : 0 ≤ c.1.2.getD (Int.toNat c.2.1) 0 ∧ c.1.2.getD (Int.toNat c.2.1) 0 ≤ 255 := by
      have hlt : Int.toNat c.2.1 < c.1.2.length := by omega
      have e : c.1.2.getD (Int.toNat c.2.1) 0 = c.1.2[Int.toNat c.2.1] := by simp [List.getD_eq_getElem?_getD, hlt]
      rw [e]
      exact h2 _ (List.getElem_mem hlt)
    rw [gT c1, gT h3, gT c1, gT (by rw [wr (by omega)]; omega)]
    exact ⟨_, _, rfl, ⟨h1, h2, by simp only; rw [wr (by omega)]; omega, by simp only; rw [wr (by omega)]; omega⟩, by rw [wr (by omega)]; exact hx.1, by rw [wr (by omega)]; exact hx.2⟩
  · rw [gF c1, gF (by rw [wr (by omega)]; omega)]
    obtain ⟨b, e1, e2, e3⟩ := byte_of (IntKind.u64.wrap ((IntKind.u64.wrap ((IntKind.u64.wrap (c.2.2 * 6364136223846793005)) + (IntKind.u64.wrap 0))) + 1442695040888963407)) (hw _)
    exact ⟨_, _, rfl, ⟨h1, h2, by simp only; rw [wr (by omega)]; omega, by simp only; rw [wr (by omega)]; omega⟩, by rw [e1]; exact e2, by rw [e1]; exact e3⟩
theorem cur_pick (c : Dl1Cur) (n : Int) (B : Int) (h : CurOk c B) (hB : B ≤ 900000000000) (hn : n ≤ 9000000000000000000) : ∃ c' x, spec_l1Cur_pick c n = some (c', x) ∧ CurOk c' (B + 2) ∧ 0 ≤ x ∧ (1 ≤ n → x < n) := by
  rw [spec_l1Cur_pick_eq]
  by_cases c1 : n ≤ 1
  · rw [gT c1]
    exact ⟨c, 0, rfl, h.mono (by omega), by omega, fun h => by omega⟩
  · rw [gF c1]
    obtain ⟨c2, b, e1, h1, b1, b2⟩ := cur_next c B h (by omega)
    rw [e1, some_bind]
    have hz : (n == 0) = false := beqF (by omega)
    by_cases c3 : n > 200
    · obtain ⟨c4, b', e2, h2, b3, b4⟩ := cur_next c2 (B + 1) h1 (by omega)
      rw [gT c3, e2, some_bind, bF hz]
      have e3 : IntKind.i64.wrap (IntKind.i64.wrap (b * 256) + b') = b * 256 + b' := by rw [wr (show -9223372036854775808 ≤ b * 256 ∧ b * 256 < 9223372036854775808 by omega), wr (by omega)]
      simp only [e3]
      refine ⟨_, _, rfl, h2.mono (by omega), Int.tmod_nonneg _ (by omega), fun _ => ?_⟩
      rw [Int.tmod_eq_emod_of_nonneg (by omega)]
      exact Int.emod_lt_of_pos _ (by omega)
    · rw [gF c3, bF hz]
      refine ⟨_, _, rfl, h1.mono (by omega), Int.tmod_nonneg _ b1, fun _ => ?_⟩
      rw [Int.tmod_eq_emod_of_nonneg b1]
      exact Int.emod_lt_of_pos _ (by omega)
theorem cur_one (c : Dl1Cur) (n : Int) (B : Int) (h : CurOk c B) (hB : B ≤ 900000000000) (hn : n ≤ 9000000000000000000) : ∃ c' b, spec_l1Cur_one c n = some (c', b) ∧ CurOk c' (B + 2) := by
  obtain ⟨c', x, e, h1, _, _⟩ := cur_pick c n B h hB hn
  rw [spec_l1Cur_one_eq, e, some_bind]
  exact ⟨c', _, rfl, h1⟩
/-- a drawn list of points -/
def Pts (n : Int) (k : Nat) (l : List Int) : Prop := Rising l ∧ (∀ x ∈ l, 0 ≤ x ∧ x < n) ∧ l.length ≤ k
theorem Pts.ins {n : Int} {k : Nat} {l : List Int} (h : Pts n k l) {x : Int} (hx : 0 ≤ x ∧ x < n) : Pts n (k + 1) (insL x l) := by
  refine ⟨insL_rising x l h.1, fun y hy => ?_, ?_⟩
  · rcases (insL_mem x l y).1 hy with rfl | hy
    · exact hx
    · exact h.2.1 y hy
  · have := insL_length x l
    have := h.2.2
    omega
/-- the arrows of a graph given by its rows -/
def gG (G : List (List Int)) : Int → List Int := fun x => if 0 ≤ x then G.getD x.toNat [] else []
/-- one arrow: what is known stays, what is new waits -/
structure Step1 (k : Nat) (s q : List Int) (s2 q2 : List Int) : Prop where
  len : s2.length = s.length
  same : ∀ v, v < s.length → 0 ≤ s.getD v 0 → s2.getD v 0 = s.getD v 0
  new : ∀ v, v < s.length → 0 ≤ s2.getD v 0 → 0 ≤ s.getD v 0 ∨ ((v : Int) ∈ q2 ∧ 1 ≤ s2.getD v 0)
  que : ∀ w ∈ q, w ∈ q2
theorem Step1.refl (k : Nat) (s q : List Int) : Step1 k s q s q := ⟨rfl, fun _ _ _ => rfl, fun _ _ h => Or.inl h, fun _ h => h⟩
theorem Step1.trans {k : Nat} {s q s2 q2 s3 q3 : List Int} (h : Step1 k s q s2 q2) (h2 : Step1 k s2 q2 s3 q3) : Step1 k s q s3 q3 := by
  refine ⟨by rw [h2.len, h.len], fun v hv h0 => ?_, fun v hv h0 => ?_, fun w hw => h2.que w (h.que w hw)⟩
  · rw [h2.same v (by rw [h.len]; exact hv) (by rw [h.same v hv h0]; exact h0), h.same v hv h0]
  · rcases h2.new v (by rw [h.len]; exact hv) h0 with a | ⟨a, b⟩
    · rcases h.new v hv a with c | ⟨c, d⟩
      · exact Or.inl c
      · refine Or.inr ⟨h2.que _ c, ?_⟩
        rw [h2.same v (by rw [h.len]; exact hv) a]
        exact d
    · exact Or.inr ⟨a, b⟩
theorem gG_in {m : Nat} {G : List (List Int)} (hG : Gr m G) : ∀ x, ∀ y ∈ gG G x, 0 ≤ y ∧ y < (m : Int) := by
  intro x y hy
  unfold gG at hy
  split at hy
  · by_cases q : x.toNat < G.length
    · have e : G.getD x.toNat [] = G[x.toNat] := by simp [List.getD_eq_getElem?_getD, q]
      rw [e] at hy
      exact hG.inn _ (List.getElem_mem q) y hy
    · rw [List.getD_eq_getElem?_getD, List.getElem?_eq_none (Nat.le_of_not_lt q)] at hy
      cases hy
  · cases hy
theorem sameInts_same (f g : Bool) (l : List Int) (hl : l.length ≤ 1048576) : laws_sameInts (f, l) (g, l) = some true := by
  have key : ∀ (d i : Nat), i + d = l.length → laws_sameInts_L0 (f, l) (g, l) (l.length : Int) (i : Int) = some (.inr ()) := by
    intro d
    induction d with
    | zero => intro i hi; rw [laws_sameInts_L0_eq, gF (by omega)]
    | succ d ih =>
      intro i hi
      have hlt : i < l.length := by omega
      rw [laws_sameInts_L0_eq, gT (by omega), gT (by omega), gT (by simp only; omega), gT (by omega), gT (by simp only; omega), bF (by simp), up1 i (by omega), bind_id, ih (i + 1) (by omega)]
  have := key l.length 0 (by omega)
  have h' : laws_sameInts_L0 (f, l) (g, l) (l.length : Int) 0 = _ := this
  rw [laws_sameInts_eq, bF (by simp), h', some_bind]
theorem has_eq (b : Bool) (l : List Int) (n : Int) (hl : l.length ≤ 1048576) : laws_has (b, l) n = some (l.any fun x => x == n) := by
  have h := any_loop l (fun x => x == n) true (fun i => laws_has_L0 n (b, l) (l.length : Int) i) (fun i h => by
    rw [laws_has_L0_eq, gT (by omega), gT (by omega), gT (by simp only; omega), getD_at l _ i h, up1 i (by omega), bind_id]) (by rw [laws_has_L0_eq, gF (by omega)])
  rw [laws_has_eq]
  simp only [h, some_bind]
  cases l.any fun x => x == n <;> rfl
/-- what is known of the parts of a graph, of a list of points -/
def PartOk (m : Nat) (P : List Int) : Prop := P.length = m ∧ ∀ v : Nat, v < m → 0 ≤ P.getD v 0 ∧ P.getD v 0 < (m : Int)
theorem isl_both {g : Int → List Int} {x y m k : Int} (h : IsL g x m) (h2 : IsL g y k) : m = k ↔ Scc g x y := by
  constructor
  · rintro rfl
    exact h.1.trans h2.1.symm
  · intro e
    exact (h.of e).one h2
/-- the numbers of the parts -/
def PartsOf (m : Nat) (G : List (List Int)) (P : List Int) : Prop := P.length = m ∧ ∀ x, 0 ≤ x ∧ x < (m : Int) → IsL (gG G) x (P.getD x.toNat 0)
theorem way_in {m : Nat} {G : List (List Int)} (hG : Gr m G) {a b : Int} (h : Way (gG G) a b) (ha : 0 ≤ a ∧ a < (m : Int)) : 0 ≤ b ∧ b < (m : Int) := Way.closed (P := fun y => 0 ≤ y ∧ y < (m : Int)) (fun x _ y hy => gG_in hG x y hy) h ha
theorem PartsOf.ok {m : Nat} {G : List (List Int)} {P : List Int} (hG : Gr m G) (h : PartsOf m G P) : PartOk m P := ⟨h.1, fun v hv => by
  have := h.2 (v : Int) (by omega)
  rw [Int.toNat_natCast] at this
  exact way_in hG this.1.1 (by omega)⟩
theorem PartsOf.same {m : Nat} {G : List (List Int)} {P : List Int} (h : PartsOf m G P) {x y : Int} (hx : 0 ≤ x ∧ x < (m : Int)) (hy : 0 ≤ y ∧ y < (m : Int)) : P.getD x.toNat 0 = P.getD y.toNat 0 ↔ Scc (gG G) x y := isl_both (h.2 x hx) (h.2 y hy)
/-- may a wire have this gate? -/
def gateOk (g : DGate) (w : Int) : Bool :=
  if g.1 = 1 then decide (0 ≤ g.2.1 ∧ g.2.1 ≤ 1 ∧ g.2.2 = 0)
  else if g.1 = 2 then decide (0 ≤ g.2.1 ∧ g.2.1 < w ∧ g.2.2 = 0)
  else decide (3 ≤ g.1 ∧ g.1 ≤ 5 ∧ (0 ≤ g.2.1 ∧ g.2.1 < w) ∧ 0 ≤ g.2.2 ∧ g.2.2 < w)
/-- are gates good, from a wire on? -/
def gatesOk (w : Int) : List DGate → Bool
  | [] => true
  | g :: gs => gateOk g w && gatesOk (w + 1) gs
def circOk (n : Int) (gs : List DGate) (os : List Int) : Bool :=
  decide (0 ≤ n ∧ n ≤ 16 ∧ gs.length ≤ 300 ∧ os.length ≤ 16) && (gatesOk n gs && os.all fun x => decide (0 ≤ x ∧ x < n + (gs.length : Int)))
theorem gatesOk_get : ∀ (gs : List DGate) (w : Int), gatesOk w gs = true → ∀ (k : Nat) (h : k < gs.length), gateOk gs[k] (w + (k : Int)) = true := by
  intro gs
  induction gs with
  | nil => intro w _ k h; simp at h
  | cons g gs ih =>
    intro w hw k h
    simp only [gatesOk, Bool.and_eq_true] at hw
    cases k with
    | zero => simpa using hw.1
    | succ k =>
      have := ih (w + 1) hw.2 k (by simpa using h)
      rw [show w + ((k + 1 : Nat) : Int) = w + 1 + (k : Int) by omega]
      simpa using this
theorem gatesOk_of : ∀ (gs : List DGate) (w : Int), (∀ (k : Nat) (h : k < gs.length), gateOk gs[k] (w + (k : Int)) = true) → gatesOk w gs = true := by
  intro gs
  induction gs with
  | nil => intro w _; rfl
  | cons g gs ih =>
    intro w hw
    simp only [gatesOk, Bool.and_eq_true]
    have h0 := hw 0 (by simp)
    rw [show w + ((0 : Nat) : Int) = w by simp] at h0
    refine ⟨h0, ih (w + 1) (fun k h => ?_)⟩
    have := hw (k + 1) (by simpa using h)
    rw [show w + ((k + 1 : Nat) : Int) = w + 1 + (k : Int) by omega] at this
    simpa using this
theorem wiresBelow (b : Bool) (l : List Int) (n : Int) (hl : l.length ≤ 1048576) : impl_areWiresBelow (b, l) n = some (l.all fun x => decide (0 ≤ x ∧ x < n)) := by
  have h := loop_find l (fun x => !decide (0 ≤ x ∧ x < n)) (fun i => slices_IndexFunc_int_by_areWiresBelow_1_L0 (b, l) (n, ()) (l.length : Int) i) (fun i h => by
    rw [slices_IndexFunc_int_by_areWiresBelow_1_L0_eq, gT (by omega), gT (by omega), gT (by simp only; omega), getD_at l _ i h, impl_areWiresBelow_1_eq, up1 i (by omega), bind_id]
    by_cases c : l[i] < 0
    · rw [gT c, some_bind, show decide (0 ≤ l[i] ∧ l[i] < n) = false from decide_eq_false (by omega)]
      rfl
    · rw [gF c, some_bind]
      have e : (decide (l[i] ≥ n)) = !decide (0 ≤ l[i] ∧ l[i] < n) := by
        rw [← decide_not]; exact decide_eq_decide.2 (by omega)
      rw [e]) (by rw [slices_IndexFunc_int_by_areWiresBelow_1_L0_eq, gF (by omega)])
  rw [impl_areWiresBelow_eq, slices_ContainsFunc_int_by_areWiresBelow_1_eq, slices_IndexFunc_int_by_areWiresBelow_1_eq]
  refine Eq.trans (congrArg (fun x : Option Bool => x.bind fun r => some (!r)) (contains_of h)) ?_
  simp only [some_bind]
  rw [List.all_eq_not_any_not]
theorem impl_gate (g : DGate) (w : Int) : impl_isGate g w = some (gateOk g w) := by
  rw [impl_isGate_eq, impl_Gate_uses_eq]
  unfold gateOk
  by_cases c1 : g.1 < 1
  · rw [gT c1, if_neg (by omega), if_neg (by omega), decide_eq_false (by omega)]
  by_cases c2 : g.1 > 5
  · rw [gF c1, gT c2, if_neg (by omega), if_neg (by omega), decide_eq_false (by omega)]
  rw [gF c1, gF c2]
  by_cases c3 : g.1 = 1
  · have e1 : (g.1 == 1) = true := by simpa using c3
    simp only [e1, cond_true, if_pos c3]
    by_cases c4 : g.2.1 < 0
    · rw [gT c4, decide_eq_false (by omega)]
    by_cases c5 : g.2.1 > 1
    · rw [gF c4, gT c5, decide_eq_false (by omega)]
    rw [gF c4, gF c5, gT (by omega)]
    by_cases c6 : g.2.2 = 0
    · rw [bF (by simpa using c6), some_bind, wiresBelow _ _ _ (by simp), some_bind, decide_eq_true (by omega)]
      rfl
    · rw [bT (by simpa using c6), decide_eq_false (by omega)]
  · have e1 : (g.1 == 1) = false := beqF c3
    simp only [e1, cond_false, if_neg c3]
    by_cases c4 : g.1 = 2
    · have e2 : (g.1 == 2) = true := by simpa using c4
      simp only [e2, cond_true, if_pos c4]
      rw [gT (by omega)]
      by_cases c6 : g.2.2 = 0
      · rw [bF (by simpa using c6), some_bind, wiresBelow _ _ _ (by simp), some_bind]
        simp only [List.all_cons, List.all_nil, Bool.and_true]
        congr 1
        exact decide_eq_decide.2 (by omega)
      · rw [bT (by simpa using c6), decide_eq_false (by omega)]
    · have e2 : (g.1 == 2) = false := beqF c4
      simp only [e2, cond_false, if_neg c4]
      rw [gF (by omega), some_bind, wiresBelow _ _ _ (by simp), some_bind]
      simp only [List.all_cons, List.all_nil, Bool.and_true]
      congr 1
      rw [← Bool.decide_and]
      exact decide_eq_decide.2 (by omega)
theorem spec_gate (g : DGate) (w : Int) (hw : -4611686018427387904 ≤ w ∧ w ≤ 4611686018427387904) : spec_l4Gate g w = some (gateOk g w) := by
  rw [spec_l4Gate_eq]
  simp only [l1In_eq, some_bind, wr (show -9223372036854775808 ≤ w - 1 ∧ w - 1 < 9223372036854775808 by omega)]
  unfold gateOk
  by_cases c1 : g.1 = 1
  · rw [bT (by simpa using c1), if_pos c1]
    by_cases c2 : 0 ≤ g.2.1 ∧ g.2.1 ≤ 1
    · rw [gT c2]; congr 1
      by_cases c3 : g.2.2 = 0
      · rw [decide_eq_true (by omega)]; simpa using c3
      · rw [decide_eq_false (by omega)]; exact beqF c3
    · rw [gF c2, decide_eq_false (by omega)]
  rw [bF (beqF c1), if_neg c1]
  by_cases c4 : g.1 = 2
  · rw [bT (by simpa using c4), if_pos c4]
    by_cases c2 : 0 ≤ g.2.1 ∧ g.2.1 ≤ w - 1
    · rw [gT c2]; congr 1
      by_cases c3 : g.2.2 = 0
      · rw [decide_eq_true (by omega)]; simpa using c3
      · rw [decide_eq_false (by omega)]; exact beqF c3
    · rw [gF c2, decide_eq_false (by omega)]
  rw [bF (beqF c4), if_neg c4]
  have key : 3 ≤ g.1 ∧ g.1 ≤ 5 → (bif decide (0 ≤ g.2.1 ∧ g.2.1 ≤ w - 1) then some (decide (0 ≤ g.2.2 ∧ g.2.2 ≤ w - 1)) else some false) = some (decide (3 ≤ g.1 ∧ g.1 ≤ 5 ∧ (0 ≤ g.2.1 ∧ g.2.1 < w) ∧ 0 ≤ g.2.2 ∧ g.2.2 < w)) := fun h => by
    by_cases c2 : 0 ≤ g.2.1 ∧ g.2.1 ≤ w - 1
    · rw [gT c2]; congr 1; exact decide_eq_decide.2 (by omega)
    · rw [gF c2, decide_eq_false (by omega)]
  by_cases c5 : g.1 = 3
  · have e : (g.1 == 3) = true := by simpa using c5
    rw [bT e, bT e, key (by omega)]
  rw [bF (beqF c5)]
  by_cases c6 : g.1 = 4
  · have e : (g.1 == 4) = true := by simpa using c6
    rw [bT e, bT e, key (by omega)]
  rw [bF (beqF c6)]
  by_cases c7 : g.1 = 5
  · have e : (g.1 == 5) = true := by simpa using c7
    rw [bT e, key (by omega)]
  rw [bF (beqF c7), decide_eq_false (by omega)]
theorem good_L0s (c : DCircuit) (b : Bool) (gs : List DGate) (hn : 0 ≤ c.1 ∧ c.1 ≤ 16) (hg : gs.length ≤ 300) (d : Nat) : ∀ i : Nat, i + d = gs.length →
    impl_GoodCircuit_L0 c (b, gs) (gs.length : Int) (i : Int) = some (if gatesOk (c.1 + (i : Int)) (gs.drop i) = true then .inr () else .inl false) ∧
    spec_GoodCircuit_L0 c (b, gs) (gs.length : Int) (i : Int) = some (if gatesOk (c.1 + (i : Int)) (gs.drop i) = true then .inr () else .inl false) := by
  induction d with
  | zero =>
    intro i hi
    rw [impl_GoodCircuit_L0_eq, spec_GoodCircuit_L0_eq, gF (by omega), gF (by omega), List.drop_of_length_le (by omega)]
    exact ⟨rfl, rfl⟩
  | succ d ih =>
    intro i hi
    have hlt : i < gs.length := by omega
    obtain ⟨h1, h2⟩ := ih (i + 1) (by omega)
    rw [show c.1 + ((i + 1 : Nat) : Int) = c.1 + (i : Int) + 1 by omega] at h1 h2
    rw [impl_GoodCircuit_L0_eq, spec_GoodCircuit_L0_eq, gT (by omega), gT (by omega), gT (by simp only; omega), gT (by omega), gT (by omega), gT (by simp only; omega), getD_at gs _ i hlt, wr (by omega), impl_gate, spec_gate _ _ (by omega), some_bind, some_bind, up1 i (by omega), bind_id, bind_id, h1, h2, List.drop_eq_getElem_cons hlt]
    simp only [gatesOk]
    rcases Bool.eq_false_or_eq_true (gateOk gs[i] (c.1 + (i : Int))) with e | e <;> simp [e]
theorem goodCirc (c : DCircuit) : impl_GoodCircuit c = some (circOk c.1 c.2.1.2 c.2.2.2) ∧ spec_GoodCircuit c = some (circOk c.1 c.2.1.2 c.2.2.2) := by
  obtain ⟨n, ⟨b, gs⟩, f, os⟩ := c
  rw [impl_GoodCircuit_eq, spec_GoodCircuit_eq, l1In_eq, some_bind]
  unfold circOk
  simp only
  by_cases c1 : n < 0
  · rw [gT c1, show (!decide (0 ≤ n ∧ n ≤ 16)) = true by simp; omega, cond_true, decide_eq_false (by omega)]
    exact ⟨rfl, rfl⟩
  by_cases c2 : n > 16
  · rw [gF c1, gT c2, show (!decide (0 ≤ n ∧ n ≤ 16)) = true by simp; omega, cond_true, decide_eq_false (by omega)]
    exact ⟨rfl, rfl⟩
  rw [gF c1, gF c2, show (!decide (0 ≤ n ∧ n ≤ 16)) = false by simp; omega, cond_false]
  by_cases c3 : (gs.length : Int) > 300
  · rw [gT c3, gT c3, decide_eq_false (by omega)]
    exact ⟨rfl, rfl⟩
  by_cases c4 : (os.length : Int) > 16
  · rw [gF c3, gF c3, gT c4, gT c4, decide_eq_false (by omega)]
    exact ⟨rfl, rfl⟩
  obtain ⟨h1, h2⟩ := good_L0s (n, (b, gs), f, os) b gs ⟨by simp only; omega, by simp only; omega⟩ (by omega) gs.length 0 (by omega)
  rw [List.drop_zero, show ((n, (b, gs), f, os) : DCircuit).1 + ((0 : Nat) : Int) = n by simp] at h1 h2
  have h1' : impl_GoodCircuit_L0 (n, (b, gs), f, os) (b, gs) (gs.length : Int) 0 = _ := h1
  have h2' : spec_GoodCircuit_L0 (n, (b, gs), f, os) (b, gs) (gs.length : Int) 0 = _ := h2
  rw [gF c3, gF c3, gF c4, gF c4, h1', h2', decide_eq_true (by omega), Bool.true_and]
  cases gatesOk n gs with
  | false => exact ⟨rfl, rfl⟩
  | true =>
    simp only [if_true, some_bind, impl_Circuit_wires_eq, spec_l4Wires_eq, Bool.true_and]
    rw [wr (show -9223372036854775808 ≤ n + (gs.length : Int) ∧ n + (gs.length : Int) < 9223372036854775808 by omega), wr (by omega), wiresBelow _ _ _ (by omega), l1All _ _ _ (by simp only; omega), some_bind, some_bind]
    refine ⟨rfl, ?_⟩
    congr 1
    refine List.all_congr rfl fun x => ?_
    exact decide_eq_decide.2 (by omega)
/-- the value of a gate -/
def valG (out : List Bool) (g : DGate) : Bool :=
  if g.1 = 1 then g.2.1 == 1
  else if g.1 = 2 then !out.getD g.2.1.toNat false
  else if g.1 = 3 then out.getD g.2.1.toNat false && out.getD g.2.2.toNat false
  else if g.1 = 4 then out.getD g.2.1.toNat false || out.getD g.2.2.toNat false
  else !(out.getD g.2.1.toNat false == out.getD g.2.2.toNat false)
/-- the values of all wires -/
def runG (out : List Bool) : List DGate → List Bool
  | [] => out
  | g :: gs => runG (out ++ [valG out g]) gs
theorem runG_length : ∀ (gs : List DGate) (out : List Bool), (runG out gs).length = out.length + gs.length := by
  intro gs
  induction gs with
  | nil => intro out; rfl
  | cons g gs ih => intro out; rw [runG, ih, List.length_append, List.length_singleton, List.length_cons]; omega
theorem run_L0s (gs : List DGate) (t : Bool) (hg : gs.length ≤ 300) (d : Nat) : ∀ (i : Nat) (b : Bool) (out : List Bool), i + d = gs.length → out.length ≤ 100 + i → gatesOk (out.length : Int) (gs.drop i) = true →
    (∃ b', impl_Circuit_allWires_L0 (b, out) (t, gs) (gs.length : Int) (i : Int) = some (b', runG out (gs.drop i))) ∧
    ∃ b', spec_l4Run_L0 (b, out) (t, gs) (gs.length : Int) (i : Int) = some (b', runG out (gs.drop i)) := by
  have hlim := lim_eq
  induction d with
  | zero =>
    intro i b out hi ho hok
    rw [impl_Circuit_allWires_L0_eq, spec_l4Run_L0_eq, gF (by omega), gF (by omega), List.drop_of_length_le (by omega)]
    exact ⟨⟨b, rfl⟩, b, rfl⟩
  | succ d ih =>
    intro i b out hi ho hok
    have hlt : i < gs.length := by omega
    rw [List.drop_eq_getElem_cons hlt] at hok ⊢
    simp only [gatesOk, Bool.and_eq_true] at hok
    obtain ⟨hk, hok⟩ := hok
    have hlen : ∀ v : Bool, out.length + [v].length ≤ lim := fun v => by simp; omega
    obtain ⟨⟨b1, g1⟩, b2, g2⟩ := ih (i + 1) (b && false) (out ++ [valG out gs[i]]) (by omega) (by simp; omega) (by
      rw [List.length_append, List.length_singleton]
      exact hok)
    rw [runG]
    generalize runG (out ++ [valG out gs[i]]) (gs.drop (i + 1)) = R at g1 g2 ⊢
    refine ⟨⟨b1, ?_⟩, b2, ?_⟩
    · rw [impl_Circuit_allWires_L0_eq, gT (by omega), gT (by omega), gT (by simp only; omega)]
      simp only [getD_at gs _ i hlt, up1 i (show i < 4611686018427387904 by omega), bind_id, hlen, decide_true, cond_true]
      unfold gateOk at hk
      unfold valG at g1
      by_cases c1 : gs[i].1 = 1
      · rw [if_pos c1] at g1
        rw [bF (beqF (by omega)), bF (beqF (by omega)), bF (beqF (by omega)), bF (beqF (by omega))]
        exact g1
      rw [if_neg c1] at hk g1
      by_cases c2 : gs[i].1 = 2
      · rw [if_pos c2, decide_eq_true_eq] at hk
        rw [if_pos c2] at g1
        rw [bT (by simpa using c2), gT (by omega), gT (by omega)]
        exact g1
      rw [if_neg c2, decide_eq_true_eq] at hk
      rw [if_neg c2] at g1
      rw [bF (beqF c2)]
      by_cases c3 : gs[i].1 = 3
      · rw [if_pos c3] at g1
        rw [bT (by simpa using c3), gT (by omega), gT (by omega)]
        cases hv : out.getD gs[i].2.1.toNat false with
        | true =>
          rw [hv, Bool.true_and] at g1
          rw [cond_true, gT (by omega), gT (by omega)]
          exact g1
        | false =>
          rw [hv, Bool.false_and] at g1
          rw [cond_false]
          exact g1
      rw [if_neg c3] at g1
      rw [bF (beqF c3)]
      by_cases c4 : gs[i].1 = 4
      · rw [if_pos c4] at g1
        rw [bT (by simpa using c4), gT (by omega), gT (by omega)]
        cases hv : out.getD gs[i].2.1.toNat false with
        | false =>
          rw [hv, Bool.false_or] at g1
          rw [cond_false, gT (by omega), gT (by omega)]
          exact g1
        | true =>
          rw [hv, Bool.true_or] at g1
          rw [cond_true]
          exact g1
      rw [if_neg c4] at g1
      rw [bF (beqF c4), bT (by rw [beq_iff_eq]; omega), gT (by omega), gT (by omega), gT (by omega), gT (by omega)]
      exact g1
    · rw [spec_l4Run_L0_eq, gT (by omega), gT (by omega), gT (by simp only; omega)]
      simp only [getD_at gs _ i hlt, up1 i (show i < 4611686018427387904 by omega), bind_id, hlen, decide_true, cond_true]
      unfold gateOk at hk
      unfold valG at g2
      by_cases c1 : gs[i].1 = 1
      · rw [if_pos c1] at g2
        rw [bT (by simpa using c1)]
        exact g2
      rw [if_neg c1] at hk g2
      rw [bF (beqF c1)]
      by_cases c2 : gs[i].1 = 2
      · rw [if_pos c2, decide_eq_true_eq] at hk
        rw [if_pos c2] at g2
        rw [bT (by simpa using c2), gT (by omega), gT (by omega)]
        exact g2
      rw [if_neg c2, decide_eq_true_eq] at hk
      rw [if_neg c2] at g2
      rw [bF (beqF c2)]
      by_cases c3 : gs[i].1 = 3
      · rw [if_pos c3] at g2
        rw [bT (by simpa using c3), gT (by omega), gT (by omega)]
        cases hv : out.getD gs[i].2.1.toNat false with
        | true =>
          rw [hv, Bool.true_and] at g2
          rw [cond_true, gT (by omega), gT (by omega)]
          exact g2
        | false =>
          rw [hv, Bool.false_and] at g2
          rw [cond_false]
          exact g2
      rw [if_neg c3] at g2
      rw [bF (beqF c3)]
      by_cases c4 : gs[i].1 = 4
      · rw [if_pos c4] at g2
        rw [bT (by simpa using c4), gT (by omega), gT (by omega)]
        cases hv : out.getD gs[i].2.1.toNat false with
        | false =>
          rw [hv, Bool.false_or] at g2
          rw [cond_false, gT (by omega), gT (by omega)]
          exact g2
        | true =>
          rw [hv, Bool.true_or] at g2
          rw [cond_true]
          exact g2
      rw [if_neg c4] at g2
      rw [bF (beqF c4), bT (by rw [beq_iff_eq]; omega), gT (by omega), gT (by omega), gT (by omega), gT (by omega)]
      exact g2
/-- what a circuit gives out -/
def outsG (vals : List Bool) (os : List Int) : List Bool := os.map fun w => vals.getD w.toNat false
theorem outs_L0s (vals : List Bool) (vb : Bool) (os : List Int) (t : Bool) (ho : os.length ≤ 16) (hin : ∀ x ∈ os, 0 ≤ x ∧ x < (vals.length : Int)) (d : Nat) : ∀ (i : Nat) (b : Bool) (out : List Bool), i + d = os.length → out.length ≤ i →
    (∃ b', impl_RunCircuit_L0 (vb, vals) (b, out) (t, os) (os.length : Int) (i : Int) = some (b', out ++ outsG vals (os.drop i))) ∧
    ∃ b', spec_RunCircuit_L0 (vb, vals) (b, out) (t, os) (os.length : Int) (i : Int) = some (b', out ++ outsG vals (os.drop i)) := by
  have hlim := lim_eq
  induction d with
  | zero =>
    intro i b out hi hl
    rw [impl_RunCircuit_L0_eq, spec_RunCircuit_L0_eq, gF (by omega), gF (by omega), List.drop_of_length_le (by omega)]
    exact ⟨⟨b, by simp [outsG]⟩, b, by simp [outsG]⟩
  | succ d ih =>
    intro i b out hi hl
    have hlt : i < os.length := by omega
    have hx := hin _ (List.getElem_mem hlt)
    obtain ⟨⟨b1, g1⟩, b2, g2⟩ := ih (i + 1) (b && false) (out ++ [vals.getD os[i].toNat false]) (by omega) (by simp; omega)
    rw [List.drop_eq_getElem_cons hlt]
    have e : out ++ [vals.getD os[i].toNat false] ++ outsG vals (os.drop (i + 1)) = out ++ outsG vals (os[i] :: os.drop (i + 1)) := by simp only [outsG, List.map_cons, List.append_assoc, List.singleton_append]
    rw [e] at g1 g2
    refine ⟨⟨b1, ?_⟩, b2, ?_⟩
    · rw [impl_RunCircuit_L0_eq, gT (by omega), gT (by omega), gT (by simp only; omega)]
      simp only [getD_at os _ i hlt, up1 i (show i < 4611686018427387904 by omega), bind_id]
      rw [gT hx.1, gT hx.2, gT (by simp; omega)]
      exact g1
    · rw [spec_RunCircuit_L0_eq, gT (by omega), gT (by omega), gT (by simp only; omega)]
      simp only [getD_at os _ i hlt, up1 i (show i < 4611686018427387904 by omega), bind_id]
      rw [gT hx.1, gT hx.2, gT (by simp; omega)]
      exact g2
def runC (n : Int) (gs : List DGate) (os : List Int) (ins : List Bool) : List Bool × Bool :=
  if circOk n gs os = true ∧ (ins.length : Int) = n then (outsG (runG ins gs) os, true) else ([], false)
theorem circOk_in {n : Int} {gs : List DGate} {os : List Int} (h : circOk n gs os = true) : 0 ≤ n ∧ n ≤ 16 ∧ gs.length ≤ 300 ∧ os.length ≤ 16 ∧ gatesOk n gs = true ∧ ∀ x ∈ os, 0 ≤ x ∧ x < n + (gs.length : Int) := by
  simp only [circOk, Bool.and_eq_true, decide_eq_true_eq, List.all_eq_true] at h
  exact ⟨h.1.1, h.1.2.1, h.1.2.2.1, h.1.2.2.2, h.2.1, h.2.2⟩
theorem run_both (c : DCircuit) (ins : Bool × List Bool) (hi : ins.1 = true → ins.2 = []) :
    (∃ f, impl_RunCircuit c ins = some ((f, (runC c.1 c.2.1.2 c.2.2.2 ins.2).1), (runC c.1 c.2.1.2 c.2.2.2 ins.2).2)) ∧
    ∃ f, spec_RunCircuit c ins = some ((f, (runC c.1 c.2.1.2 c.2.2.2 ins.2).1), (runC c.1 c.2.1.2 c.2.2.2 ins.2).2) := by
  have hlim := lim_eq
  obtain ⟨n, ⟨gb, gs⟩, ob, os⟩ := c
  obtain ⟨ib, ins⟩ := ins
  rw [impl_RunCircuit_eq, spec_RunCircuit_eq, impl_AllWires_eq, spec_AllWires_eq, (goodCirc _).1, (goodCirc _).2, some_bind, some_bind]
  unfold runC
  simp only at hi ⊢
  by_cases c1 : circOk n gs os = true
  · rw [c1]
    obtain ⟨h0, h1, h2, h3, h4, h5⟩ := circOk_in c1
    simp only [Bool.not_true, cond_false]
    by_cases c2 : (ins.length : Int) = n
    · have e2 : ((ins.length : Int) != n) = false := by simpa using c2
      simp only [e2, cond_false]
      rw [if_pos ⟨trivial, c2⟩, impl_Circuit_allWires_eq, spec_l4Run_eq, slices_Clone_bool_eq]
      have hcl : ∃ f, (bif ib then some (true, []) else bif decide (([] : List Bool).length + ins.length ≤ lim) then some (false, ([] ++ ins)) else none) = some (f, ins) := by
        cases ib with
        | true => exact ⟨true, by rw [hi rfl]; rfl⟩
        | false => exact ⟨false, by rw [cond_false, gT (by simp; omega)]; rfl⟩
      obtain ⟨f, hf⟩ := hcl
      simp only at hf ⊢
      rw [hf, some_bind, gT (by simp; omega)]
      obtain ⟨⟨b1, g1⟩, _⟩ := run_L0s gs gb h2 gs.length 0 f ins (by omega) (by omega) (by rw [List.drop_zero, c2]; exact h4)
      obtain ⟨_, b2, g2⟩ := run_L0s gs gb h2 gs.length 0 false ins (by omega) (by omega) (by rw [List.drop_zero, c2]; exact h4)
      rw [List.drop_zero] at g1 g2
      have g1' : impl_Circuit_allWires_L0 (f, ins) (gb, gs) (gs.length : Int) 0 = _ := g1
      have g2' : spec_l4Run_L0 (false, [] ++ ins) (gb, gs) (gs.length : Int) 0 = _ := g2
      simp only [g1', g2', some_bind, Bool.not_true, cond_false]
      have hx : ∀ x ∈ os, 0 ≤ x ∧ x < ((runG ins gs).length : Int) := fun x hx => by
        have := h5 x hx
        rw [runG_length]
        omega
      obtain ⟨⟨b3, g3⟩, _⟩ := outs_L0s (runG ins gs) b1 os ob h3 hx os.length 0 false [] (by omega) (by simp)
      obtain ⟨_, b4, g4⟩ := outs_L0s (runG ins gs) b2 os ob h3 hx os.length 0 true [] (by omega) (by simp)
      rw [List.drop_zero, List.nil_append] at g3 g4
      have g3' : impl_RunCircuit_L0 (b1, runG ins gs) (false, []) (ob, os) (os.length : Int) 0 = _ := g3
      have g4' : spec_RunCircuit_L0 (b2, runG ins gs) (true, []) (ob, os) (os.length : Int) 0 = _ := g4
      rw [g3', g4', some_bind, some_bind]
      exact ⟨⟨b3, rfl⟩, b4, rfl⟩
    · have e2 : ((ins.length : Int) != n) = true := by simpa using c2
      simp only [e2, cond_true]
      rw [if_neg (fun h => c2 h.2)]
      exact ⟨⟨true, rfl⟩, true, rfl⟩
  · rw [if_neg (fun h => c1 h.1), (by simpa using c1 : circOk n gs os = false)]
    exact ⟨⟨true, rfl⟩, true, rfl⟩
/-- the wires that a gate uses -/
def usesG (g : DGate) : List Int := if g.1 = 1 then [] else if g.1 = 2 then [g.2.1] else [g.2.1, g.2.2]
def setsL (m : List Bool) : List Int → List Bool
  | [] => m
  | w :: l => setsL (m.set w.toNat true) l
/-- the marks, from the gates below a place on -/
def coneG (n : Nat) (gs : List DGate) : Nat → List Bool → List Bool
  | 0, m => m
  | k + 1, m => coneG n gs k (if m.getD (n + k) false = true then setsL m (usesG (gs.getD k (0, 0, 0))) else m)
def coneM (n : Nat) (gs : List DGate) (l : List Int) : List Bool := coneG n gs gs.length (setsL (List.replicate (n + gs.length) false) l)
def ClosedG (n : Nat) (gs : List DGate) (S : Nat → Prop) : Prop := ∀ (k : Nat) (h : k < gs.length), S (n + k) → ∀ u ∈ usesG gs[k], S u.toNat
theorem setsL_length : ∀ (l : List Int) (m : List Bool), (setsL m l).length = m.length := by
  intro l
  induction l with
  | nil => intro m; rfl
  | cons w l ih => intro m; rw [setsL, ih, List.length_set]
theorem getD_setb (m : List Bool) (i j : Nat) (v : Bool) : (m.set i v).getD j false = if i = j ∧ j < m.length then v else m.getD j false := by
  simp only [List.getD_eq_getElem?_getD, List.getElem?_set]
  by_cases h : i = j
  · subst h
    by_cases h2 : i < m.length
    · simp [h2]
    · simp [h2]
  · simp [h]
theorem setsL_get : ∀ (l : List Int) (m : List Bool) (j : Nat), j < m.length → ((setsL m l).getD j false = true ↔ m.getD j false = true ∨ ∃ w ∈ l, w.toNat = j) := by
  intro l
  induction l with
  | nil => intro m j hj; simp [setsL]
  | cons w l ih =>
    intro m j hj
    rw [setsL, ih _ j (by rw [List.length_set]; exact hj), getD_setb]
    by_cases h : w.toNat = j
    · rw [if_pos ⟨h, hj⟩]
      exact ⟨fun _ => .inr ⟨w, List.mem_cons_self, h⟩, fun _ => .inl rfl⟩
    · rw [if_neg (fun e => h e.1)]
      constructor
      · rintro (h1 | ⟨x, hx, e⟩)
        · exact .inl h1
        · exact .inr ⟨x, List.mem_cons_of_mem _ hx, e⟩
      · rintro (h1 | ⟨x, hx, e⟩)
        · exact .inl h1
        · rcases List.mem_cons.1 hx with rfl | hx
          · exact absurd e h
          · exact .inr ⟨x, hx, e⟩
theorem coneG_length (n : Nat) (gs : List DGate) : ∀ (k : Nat) (m : List Bool), (coneG n gs k m).length = m.length := by
  intro k
  induction k with
  | zero => intro m; rfl
  | succ k ih =>
    intro m
    rw [coneG, ih]
    split
    · exact setsL_length _ _
    · rfl
theorem gs_getD (gs : List DGate) (k : Nat) (h : k < gs.length) : gs.getD k (0, 0, 0) = gs[k] := by simp [List.getD_eq_getElem?_getD, h]
theorem usesG_in {g : DGate} {w : Int} (h : gateOk g w = true) : ∀ u ∈ usesG g, 0 ≤ u ∧ u < w := by
  intro u hu
  unfold gateOk at h
  unfold usesG at hu
  by_cases c1 : g.1 = 1
  · rw [if_pos c1] at hu; cases hu
  rw [if_neg c1] at h hu
  by_cases c2 : g.1 = 2
  · rw [if_pos c2] at h hu
    rw [decide_eq_true_eq] at h
    rw [List.mem_singleton] at hu
    omega
  · rw [if_neg c2] at h hu
    rw [decide_eq_true_eq] at h
    rcases List.mem_cons.1 hu with rfl | hu
    · omega
    · rw [List.mem_singleton] at hu
      omega
theorem bool_iff {a b : Bool} (h : a = true ↔ b = true) : a = b := by
  cases a <;> cases b <;> simp at h ⊢
/-- what lies above stays -/
theorem coneG_high (n : Nat) (gs : List DGate) (hg : gatesOk (n : Int) gs = true) : ∀ (k : Nat) (m : List Bool) (j : Nat), k ≤ gs.length → j < m.length → n + k ≤ j → (coneG n gs k m).getD j false = m.getD j false := by
  intro k
  induction k with
  | zero => intro m j _ _ _; rfl
  | succ k ih =>
    intro m j hk hj h
    rw [coneG, ih _ j (by omega) (by split; (rw [setsL_length]; exact hj); exact hj) (by omega)]
    split
    · apply bool_iff
      rw [setsL_get _ _ _ hj]
      constructor
      · rintro (h1 | ⟨u, hu, e⟩)
        · exact h1
        · rw [gs_getD gs k (by omega)] at hu
          have := usesG_in (gatesOk_get gs _ hg k (by omega)) u hu
          omega
      · exact .inl
    · rfl
theorem coneG_mono (n : Nat) (gs : List DGate) : ∀ (k : Nat) (m : List Bool) (j : Nat), j < m.length → m.getD j false = true → (coneG n gs k m).getD j false = true := by
  intro k
  induction k with
  | zero => intro m j _ h; exact h
  | succ k ih =>
    intro m j hj h
    rw [coneG]
    split
    · exact ih _ j (by rw [setsL_length]; exact hj) ((setsL_get _ _ _ hj).2 (.inl h))
    · exact ih _ j hj h
theorem coneG_least (n : Nat) (gs : List DGate) (S : Nat → Prop) (hS : ClosedG n gs S) : ∀ (k : Nat) (m : List Bool), k ≤ gs.length → (∀ j, j < m.length → m.getD j false = true → S j) → ∀ j, j < m.length → (coneG n gs k m).getD j false = true → S j := by
  intro k
  induction k with
  | zero => intro m _ h j hj hm; exact h j hj hm
  | succ k ih =>
    intro m hk h j hj hm
    rw [coneG] at hm
    split at hm
    · rename_i c
      refine ih _ (by omega) (fun i hi hv => ?_) j (by rw [setsL_length]; exact hj) hm
      rw [setsL_length] at hi
      rcases (setsL_get _ _ _ hi).1 hv with h1 | ⟨u, hu, e⟩
      · exact h i hi h1
      · rw [gs_getD gs k (by omega)] at hu
        have hlt : n + k < m.length := by
          rcases Nat.lt_or_ge (n + k) m.length with q | q
          · exact q
          · rw [List.getD_eq_getElem?_getD, List.getElem?_eq_none (by omega)] at c
            simp at c
        rw [← e]
        exact hS k (by omega) (h _ hlt c) u hu
    · exact ih _ (by omega) h j hj hm
theorem coneG_closed (n : Nat) (gs : List DGate) (hg : gatesOk (n : Int) gs = true) : ∀ (k : Nat) (m : List Bool), k ≤ gs.length → m.length = n + gs.length → ∀ (i : Nat) (hi : i < k) (h : i < gs.length), (coneG n gs k m).getD (n + i) false = true → ∀ u ∈ usesG gs[i], (coneG n gs k m).getD u.toNat false = true := by
  intro k
  induction k with
  | zero => intro m _ _ i hi; omega
  | succ k ih =>
    intro m hk hm i hi h hv u hu
    rw [coneG] at hv ⊢
    by_cases c : m.getD (n + k) false = true
    · rw [if_pos c] at hv ⊢
      by_cases hik : i = k
      · subst hik
        rw [gs_getD gs i h] at hv ⊢
        have := usesG_in (gatesOk_get gs _ hg i h) u hu
        exact coneG_mono n gs i _ _ (by rw [setsL_length]; omega) ((setsL_get _ _ _ (by omega)).2 (.inr ⟨u, hu, rfl⟩))
      · exact ih _ (by omega) (by rw [setsL_length]; exact hm) i (by omega) h hv u hu
    · rw [if_neg c] at hv ⊢
      by_cases hik : i = k
      · subst hik
        rw [coneG_high n gs hg i m _ (by omega) (by omega) (by omega)] at hv
        exact absurd hv c
      · exact ih _ (by omega) hm i (by omega) h hv u hu
theorem coneM_length (n : Nat) (gs : List DGate) (l : List Int) : (coneM n gs l).length = n + gs.length := by
  rw [coneM, coneG_length, setsL_length, List.length_replicate]
theorem replicate_getD (n j : Nat) : (List.replicate n false).getD j false = false := by
  rw [List.getD_eq_getElem?_getD, List.getElem?_replicate]
  split <;> rfl
theorem coneM_start (n : Nat) (gs : List DGate) (l : List Int) (w : Int) (hw : w ∈ l) (h0 : 0 ≤ w) (h1 : w < (n : Int) + (gs.length : Int)) : (coneM n gs l).getD w.toNat false = true := by
  have : w.toNat < n + gs.length := by omega
  exact coneG_mono n gs _ _ _ (by rw [setsL_length, List.length_replicate]; exact this) ((setsL_get _ _ _ (by rw [List.length_replicate]; exact this)).2 (.inr ⟨w, hw, rfl⟩))
theorem coneM_closed (n : Nat) (gs : List DGate) (l : List Int) (hg : gatesOk (n : Int) gs = true) : ClosedG n gs fun j => (coneM n gs l).getD j false = true := by
  intro k h hv u hu
  exact coneG_closed n gs hg gs.length _ (by omega) (by rw [setsL_length, List.length_replicate]) k h h hv u hu
theorem coneM_least (n : Nat) (gs : List DGate) (l : List Int) (S : Nat → Prop) (hS : ClosedG n gs S) (hl : ∀ w ∈ l, S w.toNat) (j : Nat) (h : (coneM n gs l).getD j false = true) : S j := by
  have hj : j < n + gs.length := by
    rcases Nat.lt_or_ge j (n + gs.length) with q | q
    · exact q
    · rw [List.getD_eq_getElem?_getD, List.getElem?_eq_none (by rw [coneM_length]; omega)] at h
      simp at h
  refine coneG_least n gs S hS gs.length _ (by omega) (fun i hi hv => ?_) j (by rw [setsL_length, List.length_replicate]; exact hj) h
  rw [setsL_length, List.length_replicate] at hi
  rcases (setsL_get _ _ _ (by rw [List.length_replicate]; exact hi)).1 hv with h1 | ⟨w, hw, e⟩
  · rw [replicate_getD] at h1
    cases h1
  · rw [← e]
    exact hl w hw
/-- the marked wires -/
def marksL (M : List Bool) (w : Nat) : List Int := ((List.range w).filter fun (k : Nat) => M.getD k false).map fun (k : Nat) => (k : Int)
theorem marksL_succ (M : List Bool) (w : Nat) : marksL M (w + 1) = marksL M w ++ if M.getD w false = true then [(w : Int)] else [] := by
  unfold marksL
  rw [List.range_succ, List.filter_append, List.map_append]
  congr 1
  by_cases h : M.getD w false = true
  · rw [if_pos h]; simp only [List.filter_cons, h, if_true, List.filter_nil, List.map_cons, List.map_nil]
  · rw [if_neg h]; simp only [List.filter_cons, h, if_false, List.filter_nil, List.map_nil]; simp
theorem mem_marksL (M : List Bool) (w : Nat) (x : Int) : x ∈ marksL M w ↔ 0 ≤ x ∧ x < (w : Int) ∧ M.getD x.toNat false = true := by
  unfold marksL
  simp only [List.mem_map, List.mem_filter, List.mem_range]
  constructor
  · rintro ⟨k, ⟨h1, h2⟩, rfl⟩
    exact ⟨by omega, by omega, by simpa using h2⟩
  · rintro ⟨h1, h2, h3⟩
    exact ⟨x.toNat, ⟨by omega, h3⟩, by omega⟩
theorem marksL_length (M : List Bool) (w : Nat) : (marksL M w).length ≤ w := by
  unfold marksL
  rw [List.length_map]
  exact Nat.le_trans (List.length_filter_le _ _) (by rw [List.length_range]; exact Nat.le_refl _)
/-! the program's -/
theorem cone_L0s (c : DCircuit) (t4 : Bool × List Bool) (t : Bool) (l : List Int) (hl : l.length ≤ 1000) (W : Nat) (hin : ∀ x ∈ l, 0 ≤ x ∧ x < (W : Int)) (d : Nat) : ∀ (i : Nat) (b : Bool) (m : List Bool), i + d = l.length → m.length = W →
    impl_Circuit_coneOf_L0 c t4 (b, m) (t, l) (l.length : Int) (i : Int) = some (b, setsL m (l.drop i)) ∧ spec_l4Cone_L0 c (b, m) (t, l) (l.length : Int) (i : Int) = some (b, setsL m (l.drop i)) := by
  induction d with
  | zero =>
    intro i b m hi hm
    rw [impl_Circuit_coneOf_L0_eq, spec_l4Cone_L0_eq, gF (by omega), gF (by omega), List.drop_of_length_le (by omega)]
    exact ⟨rfl, rfl⟩
  | succ d ih =>
    intro i b m hi hm
    have hlt : i < l.length := by omega
    have hx := hin _ (List.getElem_mem hlt)
    obtain ⟨g1, g2⟩ := ih (i + 1) b (m.set l[i].toNat true) (by omega) (by rw [List.length_set]; exact hm)
    rw [List.drop_eq_getElem_cons hlt, setsL]
    constructor
    · rw [impl_Circuit_coneOf_L0_eq, gT (by omega), gT (by omega), gT (by simp only; omega)]
      simp only [getD_at l _ i hlt, up1 i (show i < 4611686018427387904 by omega), bind_id]
      rw [gT hx.1, gT (by omega)]
      exact g1
    · rw [spec_l4Cone_L0_eq, gT (by omega), gT (by omega), gT (by simp only; omega)]
      simp only [getD_at l _ i hlt, up1 i (show i < 4611686018427387904 by omega), bind_id]
      rw [gT hx.1, gT (by omega)]
      exact g2
theorem cone_L4 (c : DCircuit) (tt : (Bool × List DGate) × Unit) (t : Bool) (l : List Int) (hl : l.length ≤ 1000) (W : Nat) (hin : ∀ x ∈ l, 0 ≤ x ∧ x < (W : Int)) (d : Nat) : ∀ (i : Nat) (b : Bool) (m : List Bool), i + d = l.length → m.length = W →
    impl_Circuit_coneOf_L4 c (b, m) tt (t, l) (l.length : Int) (i : Int) = some (b, setsL m (l.drop i)) := by
  induction d with
  | zero =>
    intro i b m hi hm
    rw [impl_Circuit_coneOf_L4_eq, gF (by omega), List.drop_of_length_le (by omega)]
    rfl
  | succ d ih =>
    intro i b m hi hm
    have hlt : i < l.length := by omega
    have hx := hin _ (List.getElem_mem hlt)
    have g1 := ih (i + 1) b (m.set l[i].toNat true) (by omega) (by rw [List.length_set]; exact hm)
    rw [List.drop_eq_getElem_cons hlt, setsL, impl_Circuit_coneOf_L4_eq, gT (by omega), gT (by omega), gT (by simp only; omega)]
    simp only [getD_at l _ i hlt, up1 i (show i < 4611686018427387904 by omega), bind_id]
    rw [gT hx.1, gT (by omega)]
    exact g1
theorem uses_eq (g : DGate) : ∃ f, impl_Gate_uses g = some (f, usesG g) := by
  rw [impl_Gate_uses_eq]
  unfold usesG
  by_cases c1 : g.1 = 1
  · rw [bT (by simpa using c1), if_pos c1]; exact ⟨_, rfl⟩
  rw [bF (beqF c1), if_neg c1]
  by_cases c2 : g.1 = 2
  · rw [bT (by simpa using c2), if_pos c2]; exact ⟨_, rfl⟩
  · rw [bF (beqF c2), if_neg c2]; exact ⟨_, rfl⟩
theorem usesG_length (g : DGate) : (usesG g).length ≤ 2 := by
  unfold usesG
  split
  · simp
  · split <;> simp
theorem cone_L2 (c : DCircuit) (n : Nat) (hn : c.1 = (n : Int)) (hn2 : n ≤ 16) (t : Bool) (gs : List DGate) (hl : gs.length ≤ 300) (hg : gatesOk (n : Int) gs = true) : ∀ (k : Nat) (b : Bool) (m : List Bool), k ≤ gs.length → m.length = n + gs.length →
    impl_Circuit_coneOf_L2 c (b, m) (t, gs) ((k : Int) - 1) = some (b, coneG n gs k m) := by
  intro k
  induction k with
  | zero => intro b m _ _; rw [impl_Circuit_coneOf_L2_eq, gT (by omega)]; rfl
  | succ k ih =>
    intro b m hk hm
    rw [show ((k + 1 : Nat) : Int) - 1 = (k : Int) by omega, impl_Circuit_coneOf_L2_eq, gF (by omega), gT (by simp only; omega), hn, wr (by omega), show (n : Int) + (k : Int) = ((n + k : Nat) : Int) by omega, gT (by omega), gT (by simp only; omega), Int.toNat_natCast, Int.toNat_natCast, coneG]
    simp only [bind_id]
    cases hv : m.getD (n + k) false with
    | false =>
      rw [cond_false, if_neg (by simp)]
      exact ih b m (by omega) hm
    | true =>
      obtain ⟨f, e⟩ := uses_eq (gs.getD k (0, 0, 0))
      have hu : ∀ x ∈ usesG (gs.getD k (0, 0, 0)), 0 ≤ x ∧ x < ((n + gs.length : Nat) : Int) := fun x hx => by
        rw [gs_getD gs k (by omega)] at hx
        have := usesG_in (gatesOk_get gs _ hg k (by omega)) x hx
        omega
      have hul := usesG_length (gs.getD k (0, 0, 0))
      have e4 := cone_L4 c ((t, gs), ()) f (usesG (gs.getD k (0, 0, 0))) (by omega) (n + gs.length) hu (usesG (gs.getD k (0, 0, 0))).length 0 b m (by omega) hm
      rw [List.drop_zero] at e4
      have e4' : impl_Circuit_coneOf_L4 c (b, m) ((t, gs), ()) (f, usesG (gs.getD k (0, 0, 0))) ((usesG (gs.getD k (0, 0, 0))).length : Int) 0 = _ := e4
      rw [cond_true, if_pos rfl, e, some_bind]
      simp only
      rw [e4', some_bind]
      exact ih b _ (by omega) (by rw [setsL_length]; exact hm)
theorem cone_impl (c : DCircuit) (n : Nat) (hn : c.1 = (n : Int)) (hc : circOk c.1 c.2.1.2 c.2.2.2 = true) (t : Bool) (l : List Int) (hl : l.length ≤ 1000) (hin : ∀ x ∈ l, 0 ≤ x ∧ x < ((n + c.2.1.2.length : Nat) : Int)) :
    impl_Circuit_coneOf c (t, l) = some (false, coneM n c.2.1.2 l) := by
  have hlim := lim_eq
  obtain ⟨h0, h1, h2, h3, h4, h5⟩ := circOk_in hc
  have e0 : IntKind.i64.wrap (c.1 + (c.2.1.2.length : Int)) = ((n + c.2.1.2.length : Nat) : Int) := by rw [wr (by omega)]; omega
  have g1 := (cone_L0s c (true, []) t l hl (n + c.2.1.2.length) hin l.length 0 false (List.replicate (n + c.2.1.2.length) false) (by omega) (by simp)).1
  rw [List.drop_zero] at g1
  have g1' : impl_Circuit_coneOf_L0 c (true, []) (false, List.replicate (n + c.2.1.2.length) false) (t, l) (l.length : Int) 0 = _ := g1
  have g2 := cone_L2 c n hn (by omega) c.2.1.1 c.2.1.2 h2 (by rw [← hn]; exact h4) c.2.1.2.length false (setsL (List.replicate (n + c.2.1.2.length) false) l) (by omega) (by rw [setsL_length, List.length_replicate])
  have g2' : impl_Circuit_coneOf_L2 c (false, setsL (List.replicate (n + c.2.1.2.length) false) l) c.2.1 ((c.2.1.2.length : Int) - 1) = _ := g2
  rw [impl_Circuit_coneOf_eq, impl_Circuit_wires_eq, some_bind, e0, gT (by omega), gT (by omega), gT (by omega), gT (by omega), Int.toNat_natCast, g1', some_bind, g2', some_bind]
  rfl
theorem insL_front (x : Int) (l : List Int) (h : ∀ y ∈ l, x < y) : insL x l = x :: l := by
  cases l with
  | nil => rfl
  | cons y l =>
    have := h y List.mem_cons_self
    rw [insL, if_neg (by omega), if_neg (by omega)]
theorem setsL_uses (m : List Bool) (g : DGate) : setsL m (usesG g) = if g.1 = 1 then m else if g.1 = 2 then m.set g.2.1.toNat true else (m.set g.2.1.toNat true).set g.2.2.toNat true := by
  unfold usesG
  split
  · rfl
  · split <;> rfl
theorem cone_L2s (c : DCircuit) (n : Nat) (hn : c.1 = (n : Int)) (hn2 : n ≤ 16) (hl : c.2.1.2.length ≤ 300) (hg : gatesOk (n : Int) c.2.1.2 = true) : ∀ (w : Nat) (b : Bool) (m : List Bool) (f : Bool) (out : List Int), w ≤ n + c.2.1.2.length → m.length = n + c.2.1.2.length → (∀ x ∈ out, (w : Int) ≤ x) → out.length + w ≤ n + c.2.1.2.length →
    ∃ f', spec_l4Cone_L2 c (b, m) (f, out) ((w : Int) - 1) = some ((b, coneG n c.2.1.2 (w - n) m), (f', marksL (coneG n c.2.1.2 (w - n) m) w ++ out)) := by
  intro w
  induction w with
  | zero =>
    intro b m f out _ _ _ _
    rw [spec_l4Cone_L2_eq, gF (by omega), show 0 - n = 0 by omega]
    exact ⟨f, rfl⟩
  | succ w ih =>
    intro b m f out hw hm ho hlen
    rw [show ((w + 1 : Nat) : Int) - 1 = (w : Int) by omega, spec_l4Cone_L2_eq, gT (by omega), gT (by omega), gT (by simp only; omega), Int.toNat_natCast]
    simp only [bind_id, wr (show -9223372036854775808 ≤ (w : Int) - 1 ∧ (w : Int) - 1 < 9223372036854775808 by omega)]
    have high : ∀ m1 : List Bool, m1.length = n + c.2.1.2.length → (coneG n c.2.1.2 (w - n) m1).getD w false = m1.getD w false := fun m1 h1 => by
      rcases Nat.lt_or_ge w n with q | q
      · rw [show w - n = 0 by omega]; rfl
      · exact coneG_high n _ hg (w - n) m1 w (by omega) (by omega) (by omega)
    cases hv : m.getD w false with
    | false =>
      obtain ⟨f', e⟩ := ih b m f out (by omega) hm (fun x hx => by have := ho x hx; omega) (by omega)
      have e1 : coneG n c.2.1.2 (w + 1 - n) m = coneG n c.2.1.2 (w - n) m := by
        rcases Nat.lt_or_ge w n with q | q
        · rw [show w - n = 0 by omega, show w + 1 - n = 0 by omega]
        · rw [show w + 1 - n = (w - n) + 1 by omega, coneG, show n + (w - n) = w by omega, hv, if_neg (by simp)]
      rw [Bool.not_false, cond_true, e, e1, marksL_succ, high m hm, hv, if_neg (by simp), List.append_nil]
      exact ⟨f', rfl⟩
    | true =>
      obtain ⟨f2, e2⟩ := l1Put f out (w : Int) (by omega)
      rw [insL_front _ _ (fun y hy => by have := ho y hy; omega)] at e2
      rw [Bool.not_true, cond_false, e2, some_bind]
      rcases Nat.lt_or_ge w n with q | q
      · obtain ⟨f', e⟩ := ih b m f2 ((w : Int) :: out) (by omega) hm (fun x hx => by
          rcases List.mem_cons.1 hx with rfl | hx
          · omega
          · have := ho x hx; omega) (by simp only [List.length_cons]; omega)
        rw [gF (by omega), e, marksL_succ, show w + 1 - n = w - n by omega, high m hm, hv, if_pos rfl, List.append_assoc]
        exact ⟨f', rfl⟩
      · have hk : w - n < c.2.1.2.length := by omega
        have ew : IntKind.i64.wrap ((w : Int) - c.1) = ((w - n : Nat) : Int) := by rw [wr (by omega)]; omega
        rw [gT (by omega), ew]
        simp only [Int.toNat_natCast, gs_getD _ _ hk]
        rw [gT (by omega), gT (by omega)]
        have hok := gatesOk_get _ _ hg (w - n) hk
        obtain ⟨f', e⟩ := ih b (setsL m (usesG c.2.1.2[w - n])) f2 ((w : Int) :: out) (by omega) (by rw [setsL_length]; exact hm) (fun x hx => by
          rcases List.mem_cons.1 hx with rfl | hx
          · omega
          · have := ho x hx; omega) (by simp only [List.length_cons]; omega)
        have e1 : coneG n c.2.1.2 (w + 1 - n) m = coneG n c.2.1.2 (w - n) (setsL m (usesG c.2.1.2[w - n])) := by
          rw [show w + 1 - n = (w - n) + 1 by omega, coneG, show n + (w - n) = w by omega, hv, if_pos rfl, gs_getD _ _ hk]
        have e3 : (setsL m (usesG c.2.1.2[w - n])).getD w false = true := (setsL_get _ _ _ (by omega)).2 (.inl hv)
        rw [e1, marksL_succ, high _ (by rw [setsL_length]; exact hm), e3, if_pos rfl, List.append_assoc]
        refine ⟨f', ?_⟩
        have fin : spec_l4Cone_L2 c (b, setsL m (usesG c.2.1.2[w - n])) (f2, (w : Int) :: out) ((w : Int) - 1) = _ := e
        generalize coneG n c.2.1.2 (w - n) (setsL m (usesG c.2.1.2[w - n])) = R at fin ⊢
        rw [setsL_uses] at fin
        unfold gateOk at hok
        generalize c.2.1.2[w - n] = g at fin hok ⊢
        by_cases c1 : g.1 = 1
        · have e5 : (g.1 != 1) = false := by simpa using c1
          rw [if_pos c1] at fin
          rw [e5, cond_false, fin]
          simp
        · have e5 : (g.1 != 1) = true := by simpa using c1
          rw [if_neg c1] at fin hok
          by_cases c2 : g.1 = 2
          · have e6 : (g.1 != 2) = false := by simpa using c2
            rw [if_pos c2] at fin hok
            rw [decide_eq_true_eq] at hok
            rw [e5, cond_true, gT (by omega), gT (by omega), gT (by omega), gT (by omega), gT (by omega), gT (by omega), e6, cond_false, fin]
            simp
          · have e6 : (g.1 != 2) = true := by simpa using c2
            rw [if_neg c2] at fin hok
            rw [decide_eq_true_eq] at hok
            rw [e5, cond_true, gT (by omega), gT (by omega), gT (by omega), gT (by omega), gT (by omega), gT (by omega), e6, cond_true, gT (by omega), gT (by omega), gT (by omega), gT (by rw [List.length_set]; omega), fin]
            simp
theorem cone_spec (c : DCircuit) (n : Nat) (hn : c.1 = (n : Int)) (hc : circOk c.1 c.2.1.2 c.2.2.2 = true) (t : Bool) (l : List Int) (hl : l.length ≤ 1000) (hin : ∀ x ∈ l, 0 ≤ x ∧ x < ((n + c.2.1.2.length : Nat) : Int)) :
    ∃ f, spec_l4Cone c (t, l) = some (f, marksL (coneM n c.2.1.2 l) (n + c.2.1.2.length)) := by
  have hlim := lim_eq
  obtain ⟨h0, h1, h2, h3, h4, h5⟩ := circOk_in hc
  have e0 : IntKind.i64.wrap (c.1 + (c.2.1.2.length : Int)) = ((n + c.2.1.2.length : Nat) : Int) := by rw [wr (by omega)]; omega
  have g1 := (cone_L0s c (true, []) t l hl (n + c.2.1.2.length) hin l.length 0 false (List.replicate (n + c.2.1.2.length) false) (by omega) (by simp)).2
  rw [List.drop_zero] at g1
  have g1' : spec_l4Cone_L0 c (false, List.replicate (n + c.2.1.2.length) false) (t, l) (l.length : Int) 0 = _ := g1
  obtain ⟨f, g2⟩ := cone_L2s c n hn (by omega) h2 (by rw [← hn]; exact h4) (n + c.2.1.2.length) false (setsL (List.replicate (n + c.2.1.2.length) false) l) true [] (by omega) (by rw [setsL_length, List.length_replicate]) (fun x hx => by cases hx) (by simp)
  rw [show n + c.2.1.2.length - n = c.2.1.2.length by omega, List.append_nil] at g2
  refine ⟨f, ?_⟩
  rw [spec_l4Cone_eq, spec_l4Wires_eq, some_bind, e0, gT (by omega), gT (by omega), gT (by omega), gT (by omega), Int.toNat_natCast, g1', some_bind]
  simp only [setsL_length, List.length_replicate]
  rw [wr (by omega), g2, some_bind]
  rfl
theorem list_L0 (M : List Bool) (t : Bool) (hM : M.length ≤ 1000) (d : Nat) : ∀ (i : Nat) (b : Bool), i + d = M.length → ∃ b', impl_ConeOf_L0 (b, marksL M i) (t, M) (M.length : Int) (i : Int) = some (b', marksL M M.length) := by
  have hlim := lim_eq
  induction d with
  | zero =>
    intro i b hi
    obtain rfl : i = M.length := by omega
    rw [impl_ConeOf_L0_eq, gF (by omega)]
    exact ⟨b, rfl⟩
  | succ d ih =>
    intro i b hi
    have hml := marksL_length M i
    rw [impl_ConeOf_L0_eq, gT (by omega), gT (by omega), gT (by simp only; omega), Int.toNat_natCast]
    simp only [up1 i (show i < 4611686018427387904 by omega), bind_id]
    cases hv : M.getD i false with
    | true =>
      obtain ⟨b', e⟩ := ih (i + 1) (b && false) (by omega)
      rw [marksL_succ, hv, if_pos rfl] at e
      rw [cond_true, gT (by simp; omega)]
      exact ⟨b', e⟩
    | false =>
      obtain ⟨b', e⟩ := ih (i + 1) b (by omega)
      rw [marksL_succ, hv, if_neg (by simp), List.append_nil] at e
      rw [cond_false]
      exact ⟨b', e⟩
/-- what ConeOf gives -/
def coneL (n : Nat) (gs : List DGate) (w : Int) : List Int := marksL (coneM n gs [w]) (n + gs.length)
theorem coneOf_both (c : DCircuit) (w : Int) : (∃ f g, impl_ConeOf c w = some ((f, []), false) ∧ spec_ConeOf c w = some ((g, []), false)) ∨
    ∃ n : Nat, c.1 = (n : Int) ∧ circOk c.1 c.2.1.2 c.2.2.2 = true ∧ (0 ≤ w ∧ w < ((n + c.2.1.2.length : Nat) : Int)) ∧ ∃ f g, impl_ConeOf c w = some ((f, coneL n c.2.1.2 w), true) ∧ spec_ConeOf c w = some ((g, coneL n c.2.1.2 w), true) := by
  rw [impl_ConeOf_eq, spec_ConeOf_eq, (goodCirc c).1, (goodCirc c).2, some_bind, some_bind]
  by_cases hc : circOk c.1 c.2.1.2 c.2.2.2 = true
  · obtain ⟨h0, h1, h2, h3, h4, h5⟩ := circOk_in hc
    obtain ⟨n, hn⟩ := Int.eq_ofNat_of_zero_le h0
    have e0 : IntKind.i64.wrap (c.1 + (c.2.1.2.length : Int)) = ((n + c.2.1.2.length : Nat) : Int) := by rw [wr (by omega)]; omega
    have e1 : decide (0 ≤ w ∧ w ≤ ((n + c.2.1.2.length : Nat) : Int) - 1) = decide (0 ≤ w ∧ w < ((n + c.2.1.2.length : Nat) : Int)) := decide_eq_decide.2 (by omega)
    rw [hc, Bool.not_true, cond_false, cond_false, impl_Circuit_wires_eq, spec_l4Wires_eq, some_bind, some_bind, e0, wiresBelow _ _ _ (by simp), l1In_eq, some_bind, some_bind, wr (by omega), e1]
    simp only [List.all_cons, List.all_nil, Bool.and_true]
    by_cases hw : 0 ≤ w ∧ w < ((n + c.2.1.2.length : Nat) : Int)
    · right
      refine ⟨n, hn, (by trivial), hw, ?_⟩
      have hin : ∀ x ∈ [w], 0 ≤ x ∧ x < ((n + c.2.1.2.length : Nat) : Int) := fun x hx => by
        rw [List.mem_singleton] at hx
        rw [hx]
        exact hw
      obtain ⟨f, e3⟩ := cone_spec c n hn hc false [w] (by simp) hin
      obtain ⟨b', e4⟩ := list_L0 (coneM n c.2.1.2 [w]) false (by rw [coneM_length]; omega) (coneM n c.2.1.2 [w]).length 0 false (by omega)
      have e4' : impl_ConeOf_L0 (false, []) (false, coneM n c.2.1.2 [w]) ((coneM n c.2.1.2 [w]).length : Int) 0 = _ := e4
      rw [decide_eq_true hw, Bool.not_true, cond_false, cond_false, cone_impl c n hn hc false [w] (by simp) hin, some_bind, e4', some_bind, e3, some_bind, coneM_length]
      exact ⟨b', f, rfl, rfl⟩
    · left
      rw [decide_eq_false hw]
      exact ⟨true, true, rfl, rfl⟩
  · left
    rw [(by simpa using hc : circOk c.1 c.2.1.2 c.2.2.2 = false)]
    exact ⟨true, true, rfl, rfl⟩
theorem coneOf_ok (c : DCircuit) (n : Nat) (hn : c.1 = (n : Int)) (hc : circOk c.1 c.2.1.2 c.2.2.2 = true) (w : Int) (hw : 0 ≤ w ∧ w < ((n + c.2.1.2.length : Nat) : Int)) : ∃ f, impl_ConeOf c w = some ((f, coneL n c.2.1.2 w), true) := by
  obtain ⟨h0, h1, h2, h3, h4, h5⟩ := circOk_in hc
  have e0 : IntKind.i64.wrap (c.1 + (c.2.1.2.length : Int)) = ((n + c.2.1.2.length : Nat) : Int) := by rw [wr (by omega)]; omega
  have hin : ∀ x ∈ [w], 0 ≤ x ∧ x < ((n + c.2.1.2.length : Nat) : Int) := fun x hx => by
    rw [List.mem_singleton] at hx
    rw [hx]
    exact hw
  obtain ⟨b', e4⟩ := list_L0 (coneM n c.2.1.2 [w]) false (by rw [coneM_length]; omega) (coneM n c.2.1.2 [w]).length 0 false (by omega)
  have e4' : impl_ConeOf_L0 (false, []) (false, coneM n c.2.1.2 [w]) ((coneM n c.2.1.2 [w]).length : Int) 0 = _ := e4
  refine ⟨b', ?_⟩
  rw [impl_ConeOf_eq, (goodCirc c).1, some_bind, hc, Bool.not_true, cond_false, impl_Circuit_wires_eq, some_bind, e0, wiresBelow _ _ _ (by simp), some_bind]
  simp only [List.all_cons, List.all_nil, Bool.and_true]
  rw [decide_eq_true hw, Bool.not_true, cond_false, cone_impl c n hn hc false [w] (by simp) hin, some_bind, e4', some_bind, coneM_length]
  rfl
/-- what a wire is made from is made from it alone -/
theorem coneL_within (n : Nat) (gs : List DGate) (hg : gatesOk (n : Int) gs = true) (w k : Int) (hk : k ∈ coneL n gs w) : ∀ x ∈ coneL n gs k, x ∈ coneL n gs w := by
  unfold coneL at hk ⊢
  intro x hx
  rw [mem_marksL] at hk hx ⊢
  refine ⟨hx.1, hx.2.1, ?_⟩
  exact coneM_least n gs [k] (fun j => (coneM n gs [w]).getD j false = true) (coneM_closed n gs [w] hg) (fun u hu => by
    rw [List.mem_singleton] at hu
    rw [hu]
    exact hk.2.2) x.toNat hx.2.2
def idN : Nat → List Int → List Int
  | 0, num => num
  | k + 1, num => (idN k num).set k (k : Int)
/-- a gate over the numbers of its wires -/
def mapG (num : List Int) (g : DGate) : DGate := (g.1, if g.1 = 1 then g.2.1 else num.getD g.2.1.toNat 0, if 2 < g.1 then num.getD g.2.2.toNat 0 else g.2.2)
/-- the gates that are kept, and the numbers -/
def pruneG (n : Nat) (M : List Bool) : List DGate → Nat → List Int → List DGate → List Int × List DGate
  | [], _, num, og => (num, og)
  | g :: gs, k, num, og => if M.getD (n + k) false = true then pruneG n M gs (k + 1) (num.set (n + k) ((n : Int) + (og.length : Int))) (og ++ [mapG num g]) else pruneG n M gs (k + 1) num og
def pruneR (n : Nat) (gs : List DGate) (os : List Int) : List Int × List DGate := pruneG n (coneM n gs os) gs 0 (idN n (List.replicate (n + gs.length) 0)) []
theorem idN_length : ∀ (k : Nat) (num : List Int), (idN k num).length = num.length := by
  intro k
  induction k with
  | zero => intro num; rfl
  | succ k ih => intro num; rw [idN, List.length_set, ih]
theorem getD_seti (m : List Int) (i j : Nat) (v : Int) : (m.set i v).getD j 0 = if i = j ∧ j < m.length then v else m.getD j 0 := by
  simp only [List.getD_eq_getElem?_getD, List.getElem?_set]
  by_cases h : i = j
  · subst h
    by_cases h2 : i < m.length
    · simp [h2]
    · simp [h2]
  · simp [h]
theorem idN_get : ∀ (k : Nat) (num : List Int) (w : Nat), w < k → w < num.length → (idN k num).getD w 0 = (w : Int) := by
  intro k
  induction k with
  | zero => intro num w h; omega
  | succ k ih =>
    intro num w h h2
    rw [idN, getD_seti]
    by_cases e : k = w
    · rw [if_pos ⟨e, by rw [idN_length]; exact h2⟩, e]
    · rw [if_neg (fun q => e q.1)]
      exact ih num w (by omega) h2
theorem id_L0i (c t2 out : DCircuit) (in_ : Bool × List Bool) (n : Nat) (hn2 : n ≤ 1000) (num : List Int) (hl : n ≤ num.length) (b : Bool) (d : Nat) : ∀ i : Nat, i + d = n → impl_PruneCircuit_L0 c t2 in_ (b, idN i num) out (n : Int) (i : Int) = some (b, idN n num) := by
  induction d with
  | zero =>
    intro i hi
    obtain rfl : i = n := by omega
    rw [impl_PruneCircuit_L0_eq, gF (by omega)]
  | succ d ih =>
    intro i hi
    rw [impl_PruneCircuit_L0_eq, gT (by omega), gT (by omega), gT (by simp only [idN_length]; omega), Int.toNat_natCast, up1 i (by omega), bind_id]
    exact ih (i + 1) (by omega)
theorem id_L0s (c t2 out : DCircuit) (n : Nat) (hn : c.1 = (n : Int)) (hn2 : n ≤ 1000) (num : List Int) (hl : n ≤ num.length) (b : Bool) (d : Nat) : ∀ i : Nat, i + d = n → spec_PruneCircuit_L0 c t2 out (b, idN i num) (i : Int) = some (b, idN n num) := by
  induction d with
  | zero =>
    intro i hi
    obtain rfl : i = n := by omega
    rw [spec_PruneCircuit_L0_eq, gF (by omega)]
  | succ d ih =>
    intro i hi
    rw [spec_PruneCircuit_L0_eq, gT (by omega), gT (by omega), gT (by simp only [idN_length]; omega), Int.toNat_natCast, up1 i (by omega), bind_id]
    exact ih (i + 1) (by omega)
theorem has_marks (M : List Bool) (W : Nat) (hW : W ≤ 1000) (f : Bool) (j : Nat) (hj : j < W) : spec_l1Has (f, marksL M W) (j : Int) = some (M.getD j false) := by
  have hml := marksL_length M W
  rw [l1Has _ _ (by simp only; omega)]
  congr 1
  apply bool_iff
  rw [List.any_eq_true]
  constructor
  · rintro ⟨x, hx, e⟩
    rw [beq_iff_eq] at e
    rw [e, mem_marksL] at hx
    simpa using hx.2.2
  · intro h
    exact ⟨(j : Int), (mem_marksL M W _).2 ⟨by omega, by omega, by simpa using h⟩, by simp⟩
theorem prune_L2i (c t2 : DCircuit) (n : Nat) (hn : c.1 = (n : Int)) (hn2 : n ≤ 16) (M : List Bool) (mb t : Bool) (gs : List DGate) (hl : gs.length ≤ 300) (hg : gatesOk (n : Int) gs = true) (hM : M.length = n + gs.length) (o2 : Bool × List Int) (d : Nat) : ∀ (k : Nat) (b ob : Bool) (num : List Int) (og : List DGate), k + d = gs.length → num.length = n + gs.length → og.length ≤ k →
    ∃ b' ob', impl_PruneCircuit_L2 c t2 (mb, M) (b, num) (n : Int) (ob, og) o2 (t, gs) (gs.length : Int) (k : Int) = some ((b', (pruneG n M (gs.drop k) k num og).1), ((n : Int), ((ob', (pruneG n M (gs.drop k) k num og).2), o2))) := by
  have hlim := lim_eq
  induction d with
  | zero =>
    intro k b ob num og hk hnum hog
    rw [impl_PruneCircuit_L2_eq, gF (by omega), List.drop_of_length_le (by omega)]
    exact ⟨b, ob, rfl⟩
  | succ d ih =>
    intro k b ob num og hk hnum hog
    have hlt : k < gs.length := by omega
    have hok := gatesOk_get _ _ hg k hlt
    rw [impl_PruneCircuit_L2_eq, gT (by omega), gT (by omega), gT (by simp only; omega), List.drop_eq_getElem_cons hlt, pruneG]
    have ew : IntKind.i64.wrap (c.1 + (k : Int)) = ((n + k : Nat) : Int) := by rw [wr (by omega)]; omega
    simp only [gs_getD gs k hlt, up1 k (show k < 4611686018427387904 by omega), bind_id, ew, Int.toNat_natCast, impl_Circuit_wires_eq, some_bind]
    rw [wr (show -9223372036854775808 ≤ (n : Int) + (og.length : Int) ∧ (n : Int) + (og.length : Int) < 9223372036854775808 by omega), gT (by omega), gT (by omega)]
    cases hv : M.getD (n + k) false with
    | false =>
      rw [Bool.not_false, cond_true, if_neg (by simp)]
      exact ih (k + 1) b ob num og (by omega) hnum (by omega)
    | true =>
      rw [Bool.not_true, cond_false, if_pos rfl]
      obtain ⟨b', ob', e⟩ := ih (k + 1) b (ob && false) (num.set (n + k) ((n : Int) + (og.length : Int))) (og ++ [mapG num gs[k]]) (by omega) (by rw [List.length_set]; exact hnum) (by simp; omega)
      refine ⟨b', ob', ?_⟩
      have hlen : ∀ x : DGate, og.length + [x].length ≤ lim := fun x => by simp; omega
      generalize pruneG n M (gs.drop (k + 1)) (k + 1) (num.set (n + k) ((n : Int) + (og.length : Int))) (og ++ [mapG num gs[k]]) = R at e ⊢
      simp only [hlen, decide_true, cond_true]
      unfold gateOk at hok
      unfold mapG at e
      generalize gs[k] = g at hok e ⊢
      by_cases c1 : g.1 = 1
      · have e1 : (g.1 != 1) = false := by simpa using c1
        rw [if_pos c1, if_neg (by omega)] at e
        rw [e1, cond_false, gF (by omega), gT (by omega), gT (by omega)]
        exact e
      · have e1 : (g.1 != 1) = true := by simpa using c1
        rw [if_neg c1] at e hok
        by_cases c2 : g.1 = 2
        · rw [if_pos c2, decide_eq_true_eq] at hok
          rw [if_neg (by omega)] at e
          rw [e1, cond_true, gT (by omega), gT (by omega), gF (by omega), gT (by omega), gT (by omega)]
          exact e
        · rw [if_neg c2, decide_eq_true_eq] at hok
          rw [if_pos (by omega)] at e
          rw [e1, cond_true, gT (by omega), gT (by omega), gT (by omega), gT (by omega), gT (by omega), gT (by omega), gT (by omega)]
          exact e
theorem prune_L2s (c t2 : DCircuit) (n : Nat) (hn : c.1 = (n : Int)) (hn2 : n ≤ 16) (M : List Bool) (cf t : Bool) (gs : List DGate) (hl : gs.length ≤ 300) (hg : gatesOk (n : Int) gs = true) (o2 : Bool × List Int) (d : Nat) : ∀ (k : Nat) (b ob : Bool) (num : List Int) (og : List DGate), k + d = gs.length → num.length = n + gs.length → og.length ≤ k →
    ∃ b' ob', spec_PruneCircuit_L2 c t2 (n : Int) (ob, og) o2 (b, num) (cf, marksL M (n + gs.length)) (t, gs) (gs.length : Int) (k : Int) = some ((b', (pruneG n M (gs.drop k) k num og).1), ((n : Int), ((ob', (pruneG n M (gs.drop k) k num og).2), o2))) := by
  have hlim := lim_eq
  induction d with
  | zero =>
    intro k b ob num og hk hnum hog
    rw [spec_PruneCircuit_L2_eq, gF (by omega), List.drop_of_length_le (by omega)]
    exact ⟨b, ob, rfl⟩
  | succ d ih =>
    intro k b ob num og hk hnum hog
    have hlt : k < gs.length := by omega
    have hok := gatesOk_get _ _ hg k hlt
    rw [spec_PruneCircuit_L2_eq, gT (by omega), gT (by omega), gT (by simp only; omega), List.drop_eq_getElem_cons hlt, pruneG]
    have ew : IntKind.i64.wrap (c.1 + (k : Int)) = ((n + k : Nat) : Int) := by rw [wr (by omega)]; omega
    simp only [gs_getD gs k hlt, up1 k (show k < 4611686018427387904 by omega), bind_id, ew, Int.toNat_natCast, spec_l4Wires_eq, some_bind, has_marks M (n + gs.length) (show n + gs.length ≤ 1000 by omega) cf (n + k) (show n + k < n + gs.length by omega)]
    rw [wr (show -9223372036854775808 ≤ (n : Int) + (og.length : Int) ∧ (n : Int) + (og.length : Int) < 9223372036854775808 by omega)]
    cases hv : M.getD (n + k) false with
    | false =>
      rw [Bool.not_false, cond_true, if_neg (by simp)]
      exact ih (k + 1) b ob num og (by omega) hnum (by omega)
    | true =>
      rw [Bool.not_true, cond_false, if_pos rfl]
      obtain ⟨b', ob', e⟩ := ih (k + 1) b (ob && false) (num.set (n + k) ((n : Int) + (og.length : Int))) (og ++ [mapG num gs[k]]) (by omega) (by rw [List.length_set]; exact hnum) (by simp; omega)
      refine ⟨b', ob', ?_⟩
      have hlen : ∀ x : DGate, og.length + [x].length ≤ lim := fun x => by simp; omega
      generalize pruneG n M (gs.drop (k + 1)) (k + 1) (num.set (n + k) ((n : Int) + (og.length : Int))) (og ++ [mapG num gs[k]]) = R at e ⊢
      simp only [hlen, decide_true, cond_true]
      unfold gateOk at hok
      unfold mapG at e
      generalize gs[k] = g at hok e ⊢
      by_cases c1 : g.1 = 1
      · have e1 : (g.1 != 1) = false := by simpa using c1
        rw [if_pos c1, if_neg (by omega)] at e
        rw [e1, cond_false, gF (by omega), gT (by omega), gT (by omega)]
        exact e
      · have e1 : (g.1 != 1) = true := by simpa using c1
        rw [if_neg c1] at e hok
        by_cases c2 : g.1 = 2
        · rw [if_pos c2, decide_eq_true_eq] at hok
          rw [if_neg (by omega)] at e
          rw [e1, cond_true, gT (by omega), gT (by omega), gF (by omega), gT (by omega), gT (by omega)]
          exact e
        · rw [if_neg c2, decide_eq_true_eq] at hok
          rw [if_pos (by omega)] at e
          rw [e1, cond_true, gT (by omega), gT (by omega), gT (by omega), gT (by omega), gT (by omega), gT (by omega), gT (by omega)]
          exact e
def mapO (num : List Int) (os : List Int) : List Int := os.map fun w => num.getD w.toNat 0
theorem prune_L4 (t2 : DCircuit) (num : List Int) (nb : Bool) (o0 : Int) (og : List DGate) (ob : Bool) (os : List Int) (t : Bool) (ho : os.length ≤ 16) (hin : ∀ x ∈ os, 0 ≤ x ∧ x < (num.length : Int)) (d : Nat) : ∀ (i : Nat) (b : Bool) (out : List Int), i + d = os.length → out.length ≤ i →
    (∃ b', impl_PruneCircuit_L4 t2 (nb, num) o0 (ob, og) (b, out) (t, os) (os.length : Int) (i : Int) = some (o0, ((ob, og), (b', out ++ mapO num (os.drop i))))) ∧
    ∃ b', spec_PruneCircuit_L4 t2 o0 (ob, og) (b, out) (nb, num) (t, os) (os.length : Int) (i : Int) = some (o0, ((ob, og), (b', out ++ mapO num (os.drop i)))) := by
  have hlim := lim_eq
  induction d with
  | zero =>
    intro i b out hi hl
    rw [impl_PruneCircuit_L4_eq, spec_PruneCircuit_L4_eq, gF (by omega), gF (by omega), List.drop_of_length_le (by omega)]
    exact ⟨⟨b, by simp [mapO]⟩, b, by simp [mapO]⟩
  | succ d ih =>
    intro i b out hi hl
    have hlt : i < os.length := by omega
    have hx := hin _ (List.getElem_mem hlt)
    obtain ⟨⟨b1, g1⟩, b2, g2⟩ := ih (i + 1) (b && false) (out ++ [num.getD os[i].toNat 0]) (by omega) (by simp; omega)
    rw [List.drop_eq_getElem_cons hlt]
    have e : out ++ [num.getD os[i].toNat 0] ++ mapO num (os.drop (i + 1)) = out ++ mapO num (os[i] :: os.drop (i + 1)) := by simp only [mapO, List.map_cons, List.append_assoc, List.singleton_append]
    rw [e] at g1 g2
    refine ⟨⟨b1, ?_⟩, b2, ?_⟩
    · rw [impl_PruneCircuit_L4_eq, gT (by omega), gT (by omega), gT (by simp only; omega)]
      simp only [getD_at os _ i hlt, up1 i (show i < 4611686018427387904 by omega), bind_id]
      rw [gT hx.1, gT hx.2, gT (by simp; omega)]
      exact g1
    · rw [spec_PruneCircuit_L4_eq, gT (by omega), gT (by omega), gT (by simp only; omega)]
      simp only [getD_at os _ i hlt, up1 i (show i < 4611686018427387904 by omega), bind_id]
      rw [gT hx.1, gT hx.2, gT (by simp; omega)]
      exact g2
theorem pruneG_length (n : Nat) (M : List Bool) : ∀ (gs : List DGate) (k : Nat) (num : List Int) (og : List DGate), (pruneG n M gs k num og).1.length = num.length := by
  intro gs
  induction gs with
  | nil => intro k num og; rfl
  | cons g gs ih =>
    intro k num og
    rw [pruneG]
    split
    · rw [ih, List.length_set]
    · exact ih _ _ _
theorem prune_both (c : DCircuit) : (circOk c.1 c.2.1.2 c.2.2.2 = false ∧ impl_PruneCircuit c = some (0, ((true, []), ((true, []), false))) ∧ spec_PruneCircuit c = some (0, ((true, []), ((true, []), false)))) ∨
    ∃ n : Nat, c.1 = (n : Int) ∧ circOk c.1 c.2.1.2 c.2.2.2 = true ∧ ∃ f1 f2 g1 g2, impl_PruneCircuit c = some ((n : Int), ((f1, (pruneR n c.2.1.2 c.2.2.2).2), ((f2, mapO (pruneR n c.2.1.2 c.2.2.2).1 c.2.2.2), true))) ∧ spec_PruneCircuit c = some ((n : Int), ((g1, (pruneR n c.2.1.2 c.2.2.2).2), ((g2, mapO (pruneR n c.2.1.2 c.2.2.2).1 c.2.2.2), true))) := by
  have hlim := lim_eq
  by_cases hc : circOk c.1 c.2.1.2 c.2.2.2 = true
  · right
    obtain ⟨h0, h1, h2, h3, h4, h5⟩ := circOk_in hc
    obtain ⟨n, hn⟩ := Int.eq_ofNat_of_zero_le h0
    refine ⟨n, hn, hc, ?_⟩
    have hg : gatesOk (n : Int) c.2.1.2 = true := by rw [← hn]; exact h4
    have hin : ∀ x ∈ c.2.2.2, 0 ≤ x ∧ x < ((n + c.2.1.2.length : Nat) : Int) := fun x hx => by have := h5 x hx; omega
    have e0 : IntKind.i64.wrap (c.1 + (c.2.1.2.length : Int)) = ((n + c.2.1.2.length : Nat) : Int) := by rw [wr (by omega)]; omega
    obtain ⟨f, e3⟩ := cone_spec c n hn hc c.2.2.1 c.2.2.2 (by omega) hin
    have e3' : spec_l4Cone c c.2.2 = _ := e3
    have e4 := cone_impl c n hn hc c.2.2.1 c.2.2.2 (by omega) hin
    have e4' : impl_Circuit_coneOf c c.2.2 = _ := e4
    have i1 := id_L0i c (0, ((true, []), (true, []))) (c.1, ((true, []), (true, []))) (false, coneM n c.2.1.2 c.2.2.2) n (by omega) (List.replicate (n + c.2.1.2.length) 0) (by simp) false n 0 (by omega)
    have i1' : impl_PruneCircuit_L0 c (0, ((true, []), (true, []))) (false, coneM n c.2.1.2 c.2.2.2) (false, List.replicate (n + c.2.1.2.length) 0) (c.1, ((true, []), (true, []))) c.1 0 = some (false, idN n (List.replicate (n + c.2.1.2.length) 0)) := by rw [hn] at i1 ⊢; exact i1
    have s1 := id_L0s c (0, ((true, []), (true, []))) (c.1, ((true, []), (true, []))) n hn (by omega) (List.replicate (n + c.2.1.2.length) 0) (by simp) false n 0 (by omega)
    have s1' : spec_PruneCircuit_L0 c (0, ((true, []), (true, []))) (c.1, ((true, []), (true, []))) (false, List.replicate (n + c.2.1.2.length) 0) 0 = _ := s1
    have hid : (idN n (List.replicate (n + c.2.1.2.length) 0)).length = n + c.2.1.2.length := by rw [idN_length, List.length_replicate]
    obtain ⟨b1, ob1, i2⟩ := prune_L2i c (0, ((true, []), (true, []))) n hn (by omega) (coneM n c.2.1.2 c.2.2.2) false c.2.1.1 c.2.1.2 h2 hg (coneM_length _ _ _) (true, []) c.2.1.2.length 0 false true (idN n (List.replicate (n + c.2.1.2.length) 0)) [] (by omega) hid (by simp)
    obtain ⟨b2, ob2, s2⟩ := prune_L2s c (0, ((true, []), (true, []))) n hn (by omega) (coneM n c.2.1.2 c.2.2.2) f c.2.1.1 c.2.1.2 h2 hg (true, []) c.2.1.2.length 0 false true (idN n (List.replicate (n + c.2.1.2.length) 0)) [] (by omega) hid (by simp)
    rw [List.drop_zero] at i2 s2
    have hpl : (pruneR n c.2.1.2 c.2.2.2).1.length = n + c.2.1.2.length := by unfold pruneR; rw [pruneG_length, hid]
    have i2' : impl_PruneCircuit_L2 c (0, ((true, []), (true, []))) (false, coneM n c.2.1.2 c.2.2.2) (false, idN n (List.replicate (n + c.2.1.2.length) 0)) c.1 (true, []) (true, []) c.2.1 (c.2.1.2.length : Int) 0 = some ((b1, (pruneR n c.2.1.2 c.2.2.2).1), ((n : Int), ((ob1, (pruneR n c.2.1.2 c.2.2.2).2), (true, [])))) := by rw [hn]; exact i2
    have s2' : spec_PruneCircuit_L2 c (0, ((true, []), (true, []))) c.1 (true, []) (true, []) (false, idN n (List.replicate (n + c.2.1.2.length) 0)) (f, marksL (coneM n c.2.1.2 c.2.2.2) (n + c.2.1.2.length)) c.2.1 (c.2.1.2.length : Int) 0 = some ((b2, (pruneR n c.2.1.2 c.2.2.2).1), ((n : Int), ((ob2, (pruneR n c.2.1.2 c.2.2.2).2), (true, [])))) := by rw [hn]; exact s2
    obtain ⟨⟨b3, i3⟩, _⟩ := prune_L4 (0, ((true, []), (true, []))) (pruneR n c.2.1.2 c.2.2.2).1 b1 (n : Int) (pruneR n c.2.1.2 c.2.2.2).2 ob1 c.2.2.2 c.2.2.1 h3 (by rw [hpl]; exact hin) c.2.2.2.length 0 true [] (by omega) (by simp)
    obtain ⟨_, b4, s3⟩ := prune_L4 (0, ((true, []), (true, []))) (pruneR n c.2.1.2 c.2.2.2).1 b2 (n : Int) (pruneR n c.2.1.2 c.2.2.2).2 ob2 c.2.2.2 c.2.2.1 h3 (by rw [hpl]; exact hin) c.2.2.2.length 0 true [] (by omega) (by simp)
    rw [List.drop_zero, List.nil_append] at i3 s3
    have i3' : impl_PruneCircuit_L4 (0, ((true, []), (true, []))) (b1, (pruneR n c.2.1.2 c.2.2.2).1) (n : Int) (ob1, (pruneR n c.2.1.2 c.2.2.2).2) (true, []) c.2.2 (c.2.2.2.length : Int) 0 = _ := i3
    have s3' : spec_PruneCircuit_L4 (0, ((true, []), (true, []))) (n : Int) (ob2, (pruneR n c.2.1.2 c.2.2.2).2) (true, []) (b2, (pruneR n c.2.1.2 c.2.2.2).1) c.2.2 (c.2.2.2.length : Int) 0 = _ := s3
    refine ⟨ob1, b3, ob2, b4, ?_, ?_⟩
    · rw [impl_PruneCircuit_eq, (goodCirc c).1, hc, some_bind, Bool.not_true, cond_false, e4', some_bind, impl_Circuit_wires_eq, some_bind, e0, gT (by omega), gT (by omega), gT (by omega), gT (by omega), Int.toNat_natCast]
      simp only [i1', some_bind, i2', i3']
    · rw [spec_PruneCircuit_eq, (goodCirc c).2, hc, some_bind, Bool.not_true, cond_false, spec_l4Wires_eq, some_bind, e0, gT (by omega), gT (by omega), gT (by omega), gT (by omega), Int.toNat_natCast]
      simp only [s1', some_bind, e3', s2', s3']
  · left
    have hc' : circOk c.1 c.2.1.2 c.2.2.2 = false := by simpa using hc
    rw [impl_PruneCircuit_eq, spec_PruneCircuit_eq, (goodCirc c).1, (goodCirc c).2, hc']
    exact ⟨rfl, rfl, rfl⟩
theorem usesG_map {g : DGate} {w : Int} (num : List Int) (h : gateOk g w = true) : usesG (mapG num g) = (usesG g).map fun u => num.getD u.toNat 0 := by
  unfold gateOk at h
  unfold usesG mapG
  by_cases c1 : g.1 = 1
  · simp only [if_pos c1, List.map_nil]
  rw [if_neg c1] at h
  by_cases c2 : g.1 = 2
  · simp only [if_neg c1, if_pos c2, List.map_cons, List.map_nil]
  · rw [if_neg c2, decide_eq_true_eq] at h
    simp only [if_neg c1, if_neg c2, if_pos (show 2 < g.1 by omega), List.map_cons, List.map_nil]
theorem gateOk_map {g : DGate} {w v : Int} (num : List Int) (h : gateOk g w = true) (hu : ∀ u ∈ usesG g, 0 ≤ num.getD u.toNat 0 ∧ num.getD u.toNat 0 < v) : gateOk (mapG num g) v = true := by
  unfold gateOk at h ⊢
  unfold usesG at hu
  unfold mapG
  by_cases c1 : g.1 = 1
  · rw [if_pos c1, decide_eq_true_eq] at h
    simp only [if_pos c1, if_neg (show ¬ 2 < g.1 by omega), decide_eq_true_eq]
    exact h
  rw [if_neg c1] at h hu
  by_cases c2 : g.1 = 2
  · rw [if_pos c2] at h hu
    rw [decide_eq_true_eq] at h
    have := hu g.2.1 (by simp)
    simp only [if_neg c1, if_pos c2, if_neg (show ¬ 2 < g.1 by omega), decide_eq_true_eq]
    omega
  · rw [if_neg c2] at h hu
    rw [decide_eq_true_eq] at h
    have h1 := hu g.2.1 (by simp)
    have h2 := hu g.2.2 (by simp)
    simp only [if_neg c1, if_neg c2, if_pos (show 2 < g.1 by omega), decide_eq_true_eq]
    omega
theorem mapG_congr {g : DGate} {w : Int} (num num' : List Int) (h : gateOk g w = true) (hu : ∀ u ∈ usesG g, num'.getD u.toNat 0 = num.getD u.toNat 0) : mapG num' g = mapG num g := by
  unfold gateOk at h
  unfold usesG at hu
  unfold mapG
  by_cases c1 : g.1 = 1
  · simp only [if_pos c1, if_neg (show ¬ 2 < g.1 by omega)]
  rw [if_neg c1] at h hu
  by_cases c2 : g.1 = 2
  · rw [if_pos c2] at hu
    simp only [if_neg c1, if_neg (show ¬ 2 < g.1 by omega), hu g.2.1 (by simp)]
  · rw [if_neg c2] at h hu
    rw [decide_eq_true_eq] at h
    simp only [if_neg c1, if_pos (show 2 < g.1 by omega), hu g.2.1 (by simp), hu g.2.2 (by simp)]
theorem mapG_id {g : DGate} {w : Int} (num : List Int) (h : gateOk g w = true) (hu : ∀ u ∈ usesG g, num.getD u.toNat 0 = u) : mapG num g = g := by
  obtain ⟨a, x, y⟩ := g
  unfold gateOk at h
  unfold usesG at hu
  unfold mapG
  simp only at h hu ⊢
  by_cases c1 : a = 1
  · simp only [if_pos c1, if_neg (show ¬ 2 < a by omega)]
  rw [if_neg c1] at h hu
  by_cases c2 : a = 2
  · rw [if_pos c2] at hu
    simp only [if_neg c1, if_neg (show ¬ 2 < a by omega), hu x (by simp)]
  · rw [if_neg c2] at h hu
    rw [decide_eq_true_eq] at h
    simp only [if_neg c1, if_pos (show 2 < a by omega), hu x (by simp), hu y (by simp)]
theorem val_map {g : DGate} {w : Int} (num : List Int) (V V' : List Bool) (h : gateOk g w = true) (hu : ∀ u ∈ usesG g, V'.getD (num.getD u.toNat 0).toNat false = V.getD u.toNat false) : valG V' (mapG num g) = valG V g := by
  unfold gateOk at h
  unfold usesG at hu
  unfold mapG valG
  by_cases c1 : g.1 = 1
  · simp only [if_pos c1]
  rw [if_neg c1] at h hu
  by_cases c2 : g.1 = 2
  · rw [if_pos c2] at hu
    simp only [if_neg c1, if_pos c2, hu g.2.1 (by simp)]
  · rw [if_neg c2] at h hu
    rw [decide_eq_true_eq] at h
    simp only [if_neg c1, if_neg c2, if_pos (show 2 < g.1 by omega), hu g.2.1 (by simp), hu g.2.2 (by simp)]
theorem val_congr {g : DGate} {w : Int} (V V' : List Bool) (h : gateOk g w = true) (hu : ∀ u ∈ usesG g, V'.getD u.toNat false = V.getD u.toNat false) : valG V' g = valG V g := by
  unfold gateOk at h
  unfold usesG at hu
  unfold valG
  by_cases c1 : g.1 = 1
  · simp only [if_pos c1]
  rw [if_neg c1] at h hu
  by_cases c2 : g.1 = 2
  · rw [if_pos c2] at hu
    simp only [if_neg c1, if_pos c2, hu g.2.1 (by simp)]
  · rw [if_neg c2] at h hu
    simp only [if_neg c1, if_neg c2, hu g.2.1 (by simp), hu g.2.2 (by simp)]
theorem getD_snoc {α : Type} (l : List α) (x z : α) (j : Nat) : (l ++ [x]).getD j z = if j < l.length then l.getD j z else if j = l.length then x else z := by
  simp only [List.getD_eq_getElem?_getD]
  by_cases h : j < l.length
  · rw [if_pos h, List.getElem?_append_left h]
  · rw [if_neg h, List.getElem?_append_right (by omega)]
    by_cases h2 : j = l.length
    · subst h2; simp
    · rw [if_neg h2, List.getElem?_eq_none (by rw [List.length_singleton]; omega)]
      rfl
theorem runG_low : ∀ (gs : List DGate) (out : List Bool) (w : Nat), w < out.length → (runG out gs).getD w false = out.getD w false := by
  intro gs
  induction gs with
  | nil => intro out w _; rfl
  | cons g gs ih =>
    intro out w hw
    rw [runG, ih _ w (by rw [List.length_append]; omega), getD_snoc, if_pos hw]
theorem runG_at : ∀ (gs : List DGate) (out : List Bool), gatesOk (out.length : Int) gs = true → ∀ i, i < gs.length → (runG out gs).getD (out.length + i) false = valG (runG out gs) (gs.getD i (0, 0, 0)) := by
  intro gs
  induction gs with
  | nil => intro out _ i hi; simp at hi
  | cons g gs ih =>
    intro out hg i hi
    simp only [gatesOk, Bool.and_eq_true] at hg
    rw [runG]
    have hl : (out ++ [valG out g]).length = out.length + 1 := by simp
    cases i with
    | zero =>
      rw [Nat.add_zero, runG_low _ _ _ (by omega), getD_snoc, if_neg (by omega), if_pos rfl]
      symm
      refine val_congr (w := (out.length : Int)) out _ hg.1 (fun u hu => ?_)
      have := usesG_in hg.1 u hu
      have e : (g :: gs).getD 0 (0, 0, 0) = g := rfl
      rw [runG_low _ _ _ (by omega), getD_snoc, if_pos (by omega)]
    | succ i =>
      have := ih (out ++ [valG out g]) (by rw [hl]; exact hg.2) i (by simpa using hi)
      rw [hl, show out.length + 1 + i = out.length + (i + 1) by omega] at this
      exact this
structure PrInv (n : Nat) (gs : List DGate) (M : List Bool) (k : Nat) (num : List Int) (og : List DGate) : Prop where
  len : num.length = n + gs.length
  low : ∀ w, w < n → num.getD w 0 = (w : Int)
  ogk : og.length ≤ k
  fwd : ∀ i, i < gs.length → i < k → M.getD (n + i) false = true → ∃ j, j < og.length ∧ num.getD (n + i) 0 = ((n + j : Nat) : Int) ∧ og.getD j (0, 0, 0) = mapG num (gs.getD i (0, 0, 0))
  bwd : ∀ j, j < og.length → ∃ i, i < gs.length ∧ i < k ∧ M.getD (n + i) false = true ∧ num.getD (n + i) 0 = ((n + j : Nat) : Int)
  good : ∀ j, j < og.length → gateOk (og.getD j (0, 0, 0)) ((n : Int) + (j : Int)) = true
theorem PrInv.at {n : Nat} {gs : List DGate} {M : List Bool} {k : Nat} {num : List Int} {og : List DGate} (h : PrInv n gs M k num og) (u : Nat) (hu : u < n + k) (hu2 : u < n + gs.length) (hm : u < n ∨ M.getD u false = true) : 0 ≤ num.getD u 0 ∧ num.getD u 0 < (n : Int) + (og.length : Int) := by
  rcases Nat.lt_or_ge u n with q | q
  · rw [h.low u q]; omega
  · rcases hm with hm | hm
    · omega
    · obtain ⟨j, hj, e, _⟩ := h.fwd (u - n) (by omega) (by omega) (by rw [show n + (u - n) = u by omega]; exact hm)
      rw [show n + (u - n) = u by omega] at e
      rw [e]
      omega
theorem PrInv.step {n : Nat} {gs : List DGate} {M : List Bool} (hg : gatesOk (n : Int) gs = true) (hM : ClosedG n gs fun j => M.getD j false = true) {k : Nat} {num : List Int} {og : List DGate} (h : PrInv n gs M k num og) (hk : k < gs.length) (hm : M.getD (n + k) false = true) :
    PrInv n gs M (k + 1) (num.set (n + k) ((n : Int) + (og.length : Int))) (og ++ [mapG num gs[k]]) := by
  have hok := gatesOk_get _ _ hg k hk
  have hu := usesG_in hok
  have hcl := hM k hk hm
  have keep : ∀ w, w ≠ n + k → (num.set (n + k) ((n : Int) + (og.length : Int))).getD w 0 = num.getD w 0 := fun w hw => by rw [getD_seti, if_neg (fun q => hw q.1.symm)]
  have own : (num.set (n + k) ((n : Int) + (og.length : Int))).getD (n + k) 0 = (n : Int) + (og.length : Int) := by rw [getD_seti, if_pos ⟨rfl, by rw [h.len]; omega⟩]
  have stay : ∀ i, i ≤ k → (hi : i < gs.length) → mapG (num.set (n + k) ((n : Int) + (og.length : Int))) gs[i] = mapG num gs[i] := fun i hik hi => mapG_congr _ _ (gatesOk_get _ _ hg i hi) (fun u q => keep _ (by have := usesG_in (gatesOk_get _ _ hg i hi) u q; omega))
  refine ⟨by rw [List.length_set]; exact h.len, fun w hw => by rw [keep w (by omega)]; exact h.low w hw, by rw [List.length_append, List.length_singleton]; have := h.ogk; omega, fun i hi hik hv => ?_, fun j hj => ?_, fun j hj => ?_⟩
  · by_cases e : i = k
    · subst e
      refine ⟨og.length, by simp, by rw [own]; omega, ?_⟩
      rw [getD_snoc, if_neg (by omega), if_pos rfl, gs_getD gs i hi, stay i (by omega) hi]
    · obtain ⟨j, hj, e1, e2⟩ := h.fwd i hi (by omega) hv
      refine ⟨j, by rw [List.length_append]; omega, by rw [keep _ (by omega)]; exact e1, ?_⟩
      rw [getD_snoc, if_pos hj, e2, gs_getD gs i hi, stay i (by omega) hi]
  · rw [List.length_append, List.length_singleton] at hj
    by_cases e : j = og.length
    · exact ⟨k, hk, by omega, hm, by rw [own]; omega⟩
    · obtain ⟨i, h1, h2, h3, h4⟩ := h.bwd j (by omega)
      exact ⟨i, h1, by omega, h3, by rw [keep _ (by omega)]; exact h4⟩
  · rw [List.length_append, List.length_singleton] at hj
    rw [getD_snoc]
    by_cases e : j = og.length
    · rw [if_neg (by omega), if_pos e]
      refine gateOk_map num hok (fun u q => ?_)
      have := hu u q
      have := h.at u.toNat (by omega) (by omega) (.inr (hcl u q))
      omega
    · rw [if_pos (by omega)]
      exact h.good j (by omega)
theorem PrInv.all {n : Nat} {gs : List DGate} {M : List Bool} (hg : gatesOk (n : Int) gs = true) (hM : ClosedG n gs fun j => M.getD j false = true) (d : Nat) : ∀ {k : Nat} {num : List Int} {og : List DGate}, k + d = gs.length → PrInv n gs M k num og →
    PrInv n gs M gs.length (pruneG n M (gs.drop k) k num og).1 (pruneG n M (gs.drop k) k num og).2 := by
  induction d with
  | zero =>
    intro k num og hk h
    obtain rfl : k = gs.length := by omega
    rw [List.drop_of_length_le (by omega)]
    exact h
  | succ d ih =>
    intro k num og hk h
    have hlt : k < gs.length := by omega
    rw [List.drop_eq_getElem_cons hlt, pruneG]
    by_cases hv : M.getD (n + k) false = true
    · rw [if_pos hv]
      exact ih (by omega) (h.step hg hM hlt hv)
    · rw [if_neg hv]
      refine ih (by omega) ⟨h.len, h.low, by have := h.ogk; omega, fun i hi hik q => ?_, fun j hj => ?_, h.good⟩
      · by_cases e : i = k
        · exact absurd (e ▸ q) hv
        · exact h.fwd i hi (by omega) q
      · obtain ⟨i, h1, h2, h3, h4⟩ := h.bwd j hj
        exact ⟨i, h1, by omega, h3, h4⟩
theorem PrInv.first (n : Nat) (gs : List DGate) (M : List Bool) : PrInv n gs M 0 (idN n (List.replicate (n + gs.length) 0)) [] :=
  ⟨by rw [idN_length, List.length_replicate], fun w hw => idN_get n _ w hw (by rw [List.length_replicate]; omega), by simp, fun i _ h => by omega, fun j hj => by simp at hj, fun j hj => by simp at hj⟩
theorem pruneR_inv {n : Nat} {gs : List DGate} {os : List Int} (hg : gatesOk (n : Int) gs = true) : PrInv n gs (coneM n gs os) gs.length (pruneR n gs os).1 (pruneR n gs os).2 := by
  have := PrInv.all hg (coneM_closed n gs os hg) gs.length (k := 0) (by omega) (PrInv.first n gs (coneM n gs os))
  rw [List.drop_zero] at this
  exact this
/-- where all is marked, all stays -/
theorem pruneG_all {n : Nat} {gs : List DGate} {M : List Bool} (hg : gatesOk (n : Int) gs = true) (hM : ∀ i, i < gs.length → M.getD (n + i) false = true) (d : Nat) : ∀ {k : Nat} {num : List Int}, k + d = gs.length → num.length = n + gs.length → (∀ w, w < n + k → num.getD w 0 = (w : Int)) →
    (pruneG n M (gs.drop k) k num (gs.take k)).2 = gs ∧ ∀ w, w < n + gs.length → (pruneG n M (gs.drop k) k num (gs.take k)).1.getD w 0 = (w : Int) := by
  induction d with
  | zero =>
    intro k num hk hl hw
    obtain rfl : k = gs.length := by omega
    rw [List.drop_of_length_le (by omega), List.take_of_length_le (by omega)]
    exact ⟨rfl, hw⟩
  | succ d ih =>
    intro k num hk hl hw
    have hlt : k < gs.length := by omega
    have hok := gatesOk_get _ _ hg k hlt
    have e1 : mapG num gs[k] = gs[k] := mapG_id num hok (fun u hu => by
      have := usesG_in hok u hu
      rw [hw u.toNat (by omega)]
      omega)
    have e2 : gs.take k ++ [gs[k]] = gs.take (k + 1) := by rw [List.take_add_one, List.getElem?_eq_getElem hlt]; rfl
    have e3 : (gs.take k).length = k := by rw [List.length_take]; omega
    rw [List.drop_eq_getElem_cons hlt, pruneG, if_pos (hM k hlt), e1, e2, e3]
    refine ih (by omega) (by rw [List.length_set]; exact hl) (fun w h => ?_)
    rw [getD_seti]
    by_cases e : n + k = w
    · rw [if_pos ⟨e, by omega⟩]; omega
    · rw [if_neg (fun q => e q.1)]
      exact hw w (by omega)
theorem prune_laws (n : Nat) (gs : List DGate) (os : List Int) (hc : circOk (n : Int) gs os = true) :
    circOk (n : Int) (pruneR n gs os).2 (mapO (pruneR n gs os).1 os) = true ∧ (pruneR n gs os).2.length ≤ gs.length ∧
    (∀ ins : List Bool, ins.length = n → outsG (runG ins (pruneR n gs os).2) (mapO (pruneR n gs os).1 os) = outsG (runG ins gs) os) ∧
    (pruneR n (pruneR n gs os).2 (mapO (pruneR n gs os).1 os)).2 = (pruneR n gs os).2 ∧
    mapO (pruneR n (pruneR n gs os).2 (mapO (pruneR n gs os).1 os)).1 (mapO (pruneR n gs os).1 os) = mapO (pruneR n gs os).1 os := by
  obtain ⟨h0, h1, h2, h3, hg, h5⟩ := circOk_in hc
  have inv := pruneR_inv (os := os) hg
  have hcl := coneM_closed n gs os hg
  have hst : ∀ w ∈ os, (coneM n gs os).getD w.toNat false = true := fun w hw => coneM_start n gs os w hw (h5 w hw).1 (h5 w hw).2
  generalize hN : (pruneR n gs os).1 = N at inv ⊢
  generalize hO : (pruneR n gs os).2 = og at inv ⊢
  have hog := inv.ogk
  have hg2 : gatesOk (n : Int) og = true := gatesOk_of _ _ (fun j hj => by rw [← gs_getD og j hj]; exact inv.good j hj)
  have hos : ∀ x ∈ mapO N os, 0 ≤ x ∧ x < (n : Int) + (og.length : Int) := fun x hx => by
    obtain ⟨w, hw, rfl⟩ := List.mem_map.1 hx
    have := h5 w hw
    exact inv.at w.toNat (by omega) (by omega) (.inr (hst w hw))
  have hc2 : circOk (n : Int) og (mapO N os) = true := by
    unfold circOk
    rw [Bool.and_eq_true, Bool.and_eq_true, decide_eq_true_eq, List.all_eq_true]
    exact ⟨⟨h0, h1, by omega, by unfold mapO; rw [List.length_map]; exact h3⟩, hg2, fun x hx => decide_eq_true (hos x hx)⟩
  have allM : ∀ j, j < og.length → (coneM n og (mapO N os)).getD (n + j) false = true := fun j hj => by
    obtain ⟨i, i1, _, i3, i4⟩ := inv.bwd j hj
    have hS : ClosedG n gs fun w => (w < n + gs.length) ∧ (coneM n gs os).getD w false = true ∧ (coneM n og (mapO N os)).getD (N.getD w 0).toNat false = true := fun k hk hv u hu => by
      have hok := gatesOk_get _ _ hg k hk
      have hu1 := usesG_in hok u hu
      obtain ⟨j2, hj2, e1, e2⟩ := inv.fwd k hk hk hv.2.1
      rw [gs_getD gs k hk, gs_getD og j2 hj2] at e2
      refine ⟨by omega, hcl k hk hv.2.1 u hu, ?_⟩
      have e3 := hv.2.2
      rw [e1, Int.toNat_natCast] at e3
      exact coneM_closed n og (mapO N os) hg2 j2 hj2 e3 _ (by rw [e2, usesG_map N hok]; exact List.mem_map_of_mem hu)
    have := coneM_least n gs os _ hS (fun w hw => ⟨by have := h5 w hw; omega, hst w hw, coneM_start n og _ _ (List.mem_map_of_mem hw) (hos _ (List.mem_map_of_mem hw)).1 (hos _ (List.mem_map_of_mem hw)).2⟩) (n + i) i3
    have e := this.2.2
    rw [i4, Int.toNat_natCast] at e
    exact e
  have hp := pruneG_all hg2 allM og.length (k := 0) (num := idN n (List.replicate (n + og.length) 0)) (by omega) (by rw [idN_length, List.length_replicate]) (fun w hw => idN_get n _ w (by omega) (by rw [List.length_replicate]; omega))
  rw [List.drop_zero, List.take_zero] at hp
  have hp' : (pruneR n og (mapO N os)).2 = og ∧ ∀ w, w < n + og.length → (pruneR n og (mapO N os)).1.getD w 0 = (w : Int) := hp
  refine ⟨hc2, hog, fun ins hi => ?_, hp'.1, ?_⟩
  · have hga : gatesOk (ins.length : Int) gs = true := by rw [hi]; exact hg
    have hgb : gatesOk (ins.length : Int) og = true := by rw [hi]; exact hg2
    have key : ∀ w, w < n + gs.length → (w < n ∨ (coneM n gs os).getD w false = true) → (runG ins og).getD (N.getD w 0).toNat false = (runG ins gs).getD w false := by
      intro w
      induction w using Nat.strongRecOn with
      | _ w ih =>
        intro hw hm
        rcases Nat.lt_or_ge w n with q | q
        · rw [inv.low w q, Int.toNat_natCast, runG_low _ _ _ (by omega), runG_low _ _ _ (by omega)]
        · have hm : (coneM n gs os).getD w false = true := by
            rcases hm with hm | hm
            · omega
            · exact hm
          have hk : w - n < gs.length := by omega
          have hm' : (coneM n gs os).getD (n + (w - n)) false = true := by rw [show n + (w - n) = w by omega]; exact hm
          obtain ⟨j, hj, e1, e2⟩ := inv.fwd (w - n) hk hk hm'
          rw [show n + (w - n) = w by omega] at e1
          have r1 := runG_at og ins hgb j hj
          have r2 := runG_at gs ins hga (w - n) hk
          rw [show ins.length + (w - n) = w by omega] at r2
          rw [hi] at r1
          have hok := gatesOk_get _ _ hg (w - n) hk
          rw [e1, Int.toNat_natCast, r1, r2, e2, gs_getD gs _ hk]
          refine val_map N _ _ hok (fun u hu => ?_)
          have hu1 := usesG_in hok u hu
          exact ih u.toNat (by omega) (by omega) (.inr (hcl (w - n) hk hm' u hu))
    unfold outsG mapO
    rw [List.map_map]
    refine List.map_congr_left (fun w hw => ?_)
    have := h5 w hw
    exact key w.toNat (by omega) (.inr (hst w hw))
  · unfold mapO at hos ⊢
    rw [List.map_map]
    refine List.map_congr_left (fun w hw => ?_)
    have := hos _ (List.mem_map_of_mem hw)
    simp only [Function.comp_apply]
    have e := hp'.2 (N.getD w.toNat 0).toNat (by omega)
    unfold mapO at e
    rw [e]
    omega
theorem circ_L0 (d : Nat) : ∀ (c : Dl1Cur) (B : Int) (n0 : Int) (gb : Bool) (gs : List DGate) (os : Bool × List Int), CurOk c B → B + 10 * d ≤ 800000000000 → (1 ≤ n0 ∧ n0 ≤ 8) → gs.length + d ≤ 100 →
    ∃ c' gb' gs', spec_l1Cur_circuit_L0 c n0 (gb, gs) os (d : Int) = some (c', (n0, ((gb', gs'), os))) ∧ CurOk c' (B + 10 * d) ∧ gs'.length ≤ gs.length + d := by
  have hlim := lim_eq
  induction d with
  | zero =>
    intro c B n0 gb gs os hc hB hn hg
    exact ⟨c, gb, gs, by rw [spec_l1Cur_circuit_L0_eq, gF (by omega)], hc.mono (by omega), by omega⟩
  | succ d ih =>
    intro c B n0 gb gs os hc hB hn hg
    obtain ⟨c2, x, e1, h1, x1, x2⟩ := cur_pick c 5 B hc (by omega) (by omega)
    have x3 := x2 (by omega)
    have ew : IntKind.i64.wrap (1 + x) = 1 + x := wr (by omega)
    have ew2 : IntKind.i64.wrap (((d + 1 : Nat) : Int) - 1) = (d : Int) := by rw [wr (by omega)]; omega
    have ew3 : IntKind.i64.wrap (n0 + (gs.length : Int)) = n0 + (gs.length : Int) := wr (by omega)
    have hlen : ∀ g : DGate, gs.length + [g].length ≤ lim := fun g => by simp; omega
    rw [spec_l1Cur_circuit_L0_eq, gT (by omega), e1, some_bind]
    simp only [ew, ew2, bind_id, spec_l4Wires_eq, ew3, some_bind, hlen, decide_true, cond_true]
    have fin : ∀ (c4 : Dl1Cur) (g : DGate), CurOk c4 (B + 10) → ∃ c' gb' gs', spec_l1Cur_circuit_L0 c4 n0 (gb && false, gs ++ [g]) os (d : Int) = some (c', (n0, ((gb', gs'), os))) ∧ CurOk c' (B + 10 * (d + 1 : Nat)) ∧ gs'.length ≤ gs.length + (d + 1) := fun c4 g h4 => by
      obtain ⟨c', gb', gs', g1, g2, g3⟩ := ih c4 (B + 10) n0 (gb && false) (gs ++ [g]) os h4 (by omega) hn (by simp; omega)
      exact ⟨c', gb', gs', g1, g2.mono (by omega), by simp at g3; omega⟩
    by_cases q : 1 + x = 1
    · obtain ⟨c3, y, e2, h2, _, _⟩ := cur_pick c2 2 (B + 2) h1 (by omega) (by omega)
      rw [bT (by simpa using q), e2, some_bind, gF (by omega), gT (by simp; omega)]
      exact fin c3 _ (h2.mono (by omega))
    · obtain ⟨c3, y, e2, h2, _, _⟩ := cur_pick c2 (n0 + (gs.length : Int)) (B + 2) h1 (by omega) (by omega)
      rw [bF (beqF q), e2, some_bind]
      by_cases q2 : 1 + x > 2
      · obtain ⟨c4, z, e3, h3, _, _⟩ := cur_pick c3 (n0 + (gs.length : Int)) (B + 2 + 2) h2 (by omega) (by omega)
        rw [gT q2, e3, some_bind]
        exact fin c4 _ (h3.mono (by omega))
      · rw [gF q2, gT (by simp; omega)]
        exact fin c3 _ (h2.mono (by omega))
theorem wires_draw (n : Int) (hn : n ≤ 1000000) (d : Nat) : ∀ (c : Dl1Cur) (B : Int) (b : Bool) (l : List Int), CurOk c B → B + 2 * d ≤ 800000000000 → l.length + d ≤ 100 →
    ∃ c' b' l', spec_l1Cur_wires_L0 c n (d : Int) (b, l) = some (c', (b', l')) ∧ CurOk c' (B + 2 * d) ∧ l'.length ≤ l.length + d := by
  have hlim := lim_eq
  induction d with
  | zero =>
    intro c B b l hc hB hl
    exact ⟨c, b, l, by rw [spec_l1Cur_wires_L0_eq, gF (by omega)], hc.mono (by omega), by omega⟩
  | succ d ih =>
    intro c B b l hc hB hl
    obtain ⟨c2, x, e1, h1, _, _⟩ := cur_pick c n B hc (by omega) (by omega)
    obtain ⟨c3, b3, l3, g1, g2, g3⟩ := ih c2 (B + 2) (b && false) (l ++ [x]) h1 (by omega) (by simp; omega)
    refine ⟨c3, b3, l3, ?_, g2.mono (by omega), by simp at g3; omega⟩
    rw [spec_l1Cur_wires_L0_eq, gT (by omega), e1, some_bind]
    simp only
    rw [gT (by simp; omega), wr (by omega), bind_id, show ((d + 1 : Nat) : Int) - 1 = (d : Int) by omega]
    exact g1
theorem bools_draw (d : Nat) : ∀ (c : Dl1Cur) (B : Int) (n : Int) (b : Bool) (l : List Bool), CurOk c B → B + 2 * d ≤ 800000000000 → l.length + d ≤ 100 → n ≤ (d : Int) → -10 ≤ n → (b = true → l = []) →
    ∃ c' b' l', spec_l1Cur_bools_L0 c n (b, l) = some (c', (b', l')) ∧ CurOk c' (B + 2 * d) ∧ (b' = true → l' = []) := by
  have hlim := lim_eq
  induction d with
  | zero =>
    intro c B n b l hc hB hl hn hn2 hb
    exact ⟨c, b, l, by rw [spec_l1Cur_bools_L0_eq, gF (by omega)], hc.mono (by omega), hb⟩
  | succ d ih =>
    intro c B n b l hc hB hl hn hn2 hb
    rw [spec_l1Cur_bools_L0_eq]
    by_cases q : n > 0
    · obtain ⟨c2, x, e1, h1⟩ := cur_one c 2 B hc (by omega) (by omega)
      obtain ⟨c3, b3, l3, g1, g2, g3⟩ := ih c2 (B + 2) (n - 1) (b && false) (l ++ [x]) h1 (by omega) (by simp; omega) (by omega) (by omega) (fun h => by simp at h)
      refine ⟨c3, b3, l3, ?_, g2.mono (by omega), g3⟩
      rw [gT q, e1, some_bind]
      simp only
      rw [gT (by simp; omega), wr (by omega), bind_id]
      exact g1
    · exact ⟨c, b, l, by rw [gF q], hc.mono (by omega), hb⟩
theorem circ_L3 (d : Nat) : ∀ (c : Dl1Cur) (B : Int) (n0 : Int) (b : Bool) (gs : List DGate) (os : Bool × List Int), CurOk c B → B + 2 * d ≤ 800000000000 → gs.length + d = 302 → gs.length ≤ 301 →
    ∃ c' b' gs', spec_l1Cur_circuit_L3 c n0 (b, gs) os = some (c', (n0, ((b', gs'), os))) ∧ CurOk c' (B + 2 * d) ∧ gs'.length ≤ 301 := by
  have hlim := lim_eq
  induction d with
  | zero => intro c B n0 b gs os hc hB hR h1; omega
  | succ d ih =>
    intro c B n0 b gs os hc hB hR h1
    obtain ⟨c2, x, e1, h2, x1, x2⟩ := cur_pick c 2 B hc (by omega) (by omega)
    have x3 := x2 (by omega)
    rw [spec_l1Cur_circuit_L3_eq, e1, some_bind]
    simp only
    rw [wr (by omega)]
    by_cases q : (gs.length : Int) < 300 + x
    · obtain ⟨c4, b4, gs', g1, g2, g3⟩ := ih c2 (B + 2) n0 (b && false) (gs ++ [(2, (0, 0))]) os h2 (by omega) (by simp; omega) (by simp; omega)
      refine ⟨c4, b4, gs', ?_, g2.mono (by omega), g3⟩
      rw [gT q, gT (by simp; omega), bind_id]
      exact g1
    · exact ⟨c2, b, gs, by rw [gF q], h2.mono (by omega), by omega⟩
theorem draw_circ (c : Dl1Cur) (hc : CurOk c 0) : ∃ c' n gb gs os, spec_l1Cur_circuit c = some (c', (n, ((gb, gs), os))) ∧ CurOk c' 10000 ∧ (-1 ≤ n ∧ n ≤ 17) ∧ gs.length ≤ 301 := by
  have hlim := lim_eq
  obtain ⟨c1, x, e1, h1, x1, x2⟩ := cur_pick c 8 0 hc (by omega) (by omega)
  have x3 := x2 (by omega)
  obtain ⟨c2, y, e2, h2, y1, y2⟩ := cur_pick c1 20 _ h1 (by omega) (by omega)
  have y3 := y2 (by omega)
  obtain ⟨k, rfl⟩ := Int.eq_ofNat_of_zero_le y1
  obtain ⟨c3, gb, gs, e3, h3, g1⟩ := circ_L0 k c2 _ (1 + x) true [] (true, []) h2 (by omega) (by omega) (by simp only [List.length_nil]; omega)
  rw [List.length_nil] at g1
  have ew : IntKind.i64.wrap (1 + x) = 1 + x := wr (by omega)
  have ew3 : IntKind.i64.wrap (1 + x + (gs.length : Int)) = 1 + x + (gs.length : Int) := wr (by omega)
  obtain ⟨c4, z, e4, h4, z1, z2⟩ := cur_pick c3 5 _ h3 (by omega) (by omega)
  have z3 := z2 (by omega)
  obtain ⟨k2, rfl⟩ := Int.eq_ofNat_of_zero_le z1
  obtain ⟨c5, ob, os, e5, h5, g2⟩ := wires_draw (1 + x + (gs.length : Int)) (by omega) k2 c4 _ true [] h4 (by omega) (by simp only [List.length_nil]; omega)
  rw [List.length_nil] at g2
  obtain ⟨c6, u, e6, h6, u1, u2⟩ := cur_pick c5 30 _ h5 (by omega) (by omega)
  rw [spec_l1Cur_circuit_eq, e1, some_bind]
  simp only [e2, some_bind, ew, e3, spec_l4Wires_eq, ew3, e4, spec_l1Cur_wires_eq, e5, e6]
  by_cases q0 : u = 0
  · rw [bT (by simpa using q0), gT (by simp; omega)]
    exact ⟨c6, 1 + x, gb, gs, _, rfl, h6.mono (by omega), by omega, by omega⟩
  rw [bF (beqF q0)]
  by_cases q1 : u = 1
  · obtain ⟨c7, v, e7, h7, v1, v2⟩ := cur_pick c6 4 _ h6 (by omega) (by omega)
    have v3 := v2 (by omega)
    have e7' : spec_l1Cur_pick c6 (([-1, 0, 16, 17] : List Int).length : Int) = some (c7, v) := e7
    rw [bT (by simpa using q1), spec_l1Cur_among_eq, e7', some_bind, gT v1, gT (by simp; omega), some_bind]
    have hv : v = 0 ∨ v = 1 ∨ v = 2 ∨ v = 3 := by omega
    refine ⟨c7, ([-1, 0, 16, 17] : List Int).getD v.toNat 0, gb, gs, (ob, os), rfl, h7.mono (by omega), ?_, by omega⟩
    rcases hv with rfl | rfl | rfl | rfl <;> decide
  rw [bF (beqF q1)]
  by_cases q2 : u = 2
  · obtain ⟨c7, b7, gs7, e7, h7, g7⟩ := circ_L3 (302 - gs.length) c6 _ (1 + x) gb gs (ob, os) h6 (by omega) (by omega) (by omega)
    rw [bT (by simpa using q2), e7, some_bind]
    exact ⟨c7, 1 + x, b7, gs7, (ob, os), rfl, h7.mono (by omega), by omega, by omega⟩
  · rw [bF (beqF q2)]
    exact ⟨c6, 1 + x, gb, gs, (ob, os), rfl, h6.mono (by omega), by omega, by omega⟩
theorem draw_run (code : Bool × List Int) (hc : CurOk (code, (0, 0)) 0) : ∃ n gs os ins, spec_DrawRunCircuit code = some (n, (gs, (os, ins))) ∧ (ins.1 = true → ins.2 = []) := by
  obtain ⟨c', n, gb, gs, os, e1, h1, hn, hg⟩ := draw_circ _ hc
  obtain ⟨c2, x, e2, h2, x1, x2⟩ := cur_pick c' 20 _ h1 (by omega) (by omega)
  have x3 := x2 (by omega)
  have ht : 0 ≤ Int.tdiv x 19 ∧ Int.tdiv x 19 ≤ 1 := by rw [Int.tdiv_eq_ediv_of_nonneg x1]; omega
  have ew : IntKind.i64.wrap (Int.tdiv x 19) = Int.tdiv x 19 := wr (by omega)
  have ew2 : IntKind.i64.wrap (n + Int.tdiv x 19) = n + Int.tdiv x 19 := wr (by omega)
  obtain ⟨c3, b3, l3, e3, h3, hb⟩ := bools_draw 20 c2 _ (n + Int.tdiv x 19) true [] h2 (by omega) (by simp) (by omega) (by omega) (fun _ => rfl)
  refine ⟨n, (gb, gs), os, (b3, l3), ?_, hb⟩
  rw [spec_DrawRunCircuit_eq, spec_DrawAllWires_eq, e1, some_bind]
  simp only [e2, some_bind, ew, ew2, spec_l1Cur_bools_eq, e3]
theorem draw_cone (code : Bool × List Int) (hc : CurOk (code, (0, 0)) 0) : ∃ n gs os w, spec_DrawConeOf code = some (n, (gs, (os, w))) := by
  obtain ⟨c', n, gb, gs, os, e1, h1, hn, hg⟩ := draw_circ _ hc
  have ew : IntKind.i64.wrap (n + (gs.length : Int)) = n + (gs.length : Int) := wr (by omega)
  have ew2 : IntKind.i64.wrap (n + (gs.length : Int) + 2) = n + (gs.length : Int) + 2 := wr (by omega)
  obtain ⟨c2, x, e2, h2, x1, x2⟩ := cur_pick c' (n + (gs.length : Int) + 2) _ h1 (by omega) (by omega)
  refine ⟨n, (gb, gs), os, IntKind.i64.wrap (x - 1), ?_⟩
  rw [spec_DrawConeOf_eq, e1, some_bind]
  simp only [spec_l4Wires_eq, ew, ew2, some_bind, e2]
theorem sameBools_same (f g : Bool) (l : List Bool) (hl : l.length ≤ 1048576) : laws_sameBools (f, l) (g, l) = some true := by
  have key : ∀ (d i : Nat), i + d = l.length → laws_sameBools_L0 (f, l) (g, l) (l.length : Int) (i : Int) = some (.inr ()) := by
    intro d
    induction d with
    | zero => intro i hi; rw [laws_sameBools_L0_eq, gF (by omega)]
    | succ d ih =>
      intro i hi
      have hlt : i < l.length := by omega
      rw [laws_sameBools_L0_eq, gT (by omega), gT (by omega), gT (by simp only; omega), gT (by omega), gT (by simp only; omega), bF (by simp), up1 i (by omega), bind_id, ih (i + 1) (by omega)]
  have h' : laws_sameBools_L0 (f, l) (g, l) (l.length : Int) 0 = _ := key l.length 0 (by omega)
  rw [laws_sameBools_eq, bF (by simp), h', some_bind]
theorem sameCircuit_same (n : Int) (f g f2 g2 : Bool) (gs : List DGate) (os : List Int) (hg : gs.length ≤ 1048576) (ho : os.length ≤ 1048576) : laws_sameCircuit (n, ((f, gs), (f2, os))) (n, ((g, gs), (g2, os))) = some true := by
  have key : ∀ (d i : Nat), i + d = gs.length → laws_sameCircuit_L0 (n, ((f, gs), (f2, os))) (n, ((g, gs), (g2, os))) (gs.length : Int) (i : Int) = some (.inr ()) := by
    intro d
    induction d with
    | zero => intro i hi; rw [laws_sameCircuit_L0_eq, gF (by omega)]
    | succ d ih =>
      intro i hi
      have hlt : i < gs.length := by omega
      rw [laws_sameCircuit_L0_eq, gT (by omega), gT (by omega), gT (by simp only; omega), gT (by omega), gT (by simp only; omega), bF (by simp), up1 i (by omega), bind_id, ih (i + 1) (by omega)]
  have h' : laws_sameCircuit_L0 (n, ((f, gs), (f2, os))) (n, ((g, gs), (g2, os))) (gs.length : Int) 0 = _ := key gs.length 0 (by omega)
  rw [laws_sameCircuit_eq, bF (by simp), bF (by simp)]
  simp only [sameInts_same f2 g2 os ho, some_bind, Bool.not_true, cond_false, h']
theorem within_of (f g : Bool) (a b : List Int) (ha : a.length ≤ 1048576) (hb : b.length ≤ 1048576) (h : ∀ x ∈ a, x ∈ b) : laws_within (f, a) (g, b) = some true := by
  have key : ∀ (d i : Nat), i + d = a.length → laws_within_L0 (g, b) (f, a) (a.length : Int) (i : Int) = some (.inr ()) := by
    intro d
    induction d with
    | zero => intro i hi; rw [laws_within_L0_eq, gF (by omega)]
    | succ d ih =>
      intro i hi
      have hlt : i < a.length := by omega
      rw [laws_within_L0_eq, gT (by omega), gT (by omega), gT (by simp only; omega)]
      simp only [getD_at a _ i hlt]
      rw [has_eq _ _ _ hb, List.any_eq_true.2 ⟨_, h _ (List.getElem_mem hlt), by simp⟩, some_bind, Bool.not_true, cond_false, up1 i (by omega), bind_id, ih (i + 1) (by omega)]
  have h' : laws_within_L0 (g, b) (f, a) (a.length : Int) 0 = _ := key a.length 0 (by omega)
  rw [laws_within_eq, h', some_bind]
theorem cone_part (n : Int) (gs : Bool × List DGate) (os : Bool × List Int) (w : Int) : ∃ l1 l2 ok, impl_ConeOf (n, (gs, os)) w = some (l1, ok) ∧ spec_ConeOf (n, (gs, os)) w = some (l2, ok) ∧ laws_sameInts l1 l2 = some true ∧ laws_FnPruned_L0 (n, (gs, os)) l1 l1 (l1.2.length : Int) 0 = some (.inr ()) := by
  rcases coneOf_both (n, (gs, os)) w with ⟨f, g, e1, e2⟩ | ⟨m, hn, hc, hw, f, g, e1, e2⟩
  · refine ⟨_, _, _, e1, e2, sameInts_same f g [] (by simp), ?_⟩
    rw [laws_FnPruned_L0_eq, gF (by simp)]
  · obtain ⟨h0, h1, h2, h3, h4, h5⟩ := circOk_in hc
    simp only at hn h0 h1 h2 h3 h4 h5 hw hc
    have hlen : ∀ k, (coneL m gs.2 k).length ≤ 1048576 := fun k => by
      have := marksL_length (coneM m gs.2 [k]) (m + gs.2.length)
      unfold coneL
      omega
    refine ⟨_, _, _, e1, e2, sameInts_same f g _ (hlen w), ?_⟩
    have hg : gatesOk (m : Int) gs.2 = true := by rw [← hn]; exact h4
    have hll := hlen w
    have key : ∀ (d i : Nat), i + d = (coneL m gs.2 w).length → laws_FnPruned_L0 (n, (gs, os)) (f, coneL m gs.2 w) (f, coneL m gs.2 w) ((coneL m gs.2 w).length : Int) (i : Int) = some (.inr ()) := by
      intro d
      induction d with
      | zero => intro i hi; rw [laws_FnPruned_L0_eq, gF (by omega)]
      | succ d ih =>
        intro i hi
        have hlt : i < (coneL m gs.2 w).length := by omega
        have hmem := List.getElem_mem hlt
        have hr : 0 ≤ (coneL m gs.2 w)[i] ∧ (coneL m gs.2 w)[i] < ((m + gs.2.length : Nat) : Int) := by
          have := (mem_marksL _ _ _).1 hmem
          exact ⟨this.1, this.2.1⟩
        rw [laws_FnPruned_L0_eq, gT (by omega), gT (by omega), gT (by simp only; omega)]
        simp only [getD_at (coneL m gs.2 w) _ i hlt]
        obtain ⟨f2, e3⟩ := coneOf_ok (n, (gs, os)) m hn hc _ hr
        rw [e3, some_bind]
        simp only [Bool.not_true, cond_false, within_of f2 f _ _ (hlen _) (hlen _) (coneL_within m gs.2 hg w _ hmem), some_bind]
        rw [up1 i (by omega), bind_id, ih (i + 1) (by omega)]
    exact key (coneL m gs.2 w).length 0 (by omega)
theorem pure_FnPruned (x0 : Bool × List Int) (x1 : Bool × List Int) (w0 : WfD (.sl (.int .u8)) x0) (w1 : WfD (.sl (.int .u8)) x1) : laws_FnPruned x0 x1 = some true := by
  obtain ⟨_, _, w03⟩ := w0
  obtain ⟨_, w12, w13⟩ := w1
  have w12' : (x1.2.length : Int) ≤ 9223372036854775807 := by have : x1.2.length ≤ 9223372036854775807 := w12; omega
  rw [laws_FnPruned_eq, laws_big_eq]
  by_cases c0 : (x0.2.length : Int) > 1048576
  · rw [gT c0, some_bind]; rfl
  rw [gF c0, some_bind, wr (by omega)]
  by_cases c1 : (x1.2.length : Int) > 1048576 - (x0.2.length : Int)
  · rw [decide_eq_true c1]; rfl
  rw [decide_eq_false c1, cond_false]
  obtain ⟨n, gs, os, ins, e1, hi⟩ := draw_run x0 ⟨by simp only; omega, fun x hx => w03 x hx, by simp, by simp⟩
  obtain ⟨n2, gs2, os2, w, e2⟩ := draw_cone x1 ⟨by simp only; omega, fun x hx => w13 x hx, by simp, by simp⟩
  obtain ⟨l1, l2, ok, k1, k2, k3, k4⟩ := cone_part n2 gs2 os2 w
  obtain ⟨⟨f1, r1⟩, f2, r2⟩ := run_both (n, (gs, os)) ins hi
  rw [e1, some_bind]
  have k1' : impl_ConeOf (n2, ((gs2.1, gs2.2), (os2.1, os2.2))) w = some (l1, ok) := k1
  have k2' : spec_ConeOf (n2, ((gs2.1, gs2.2), (os2.1, os2.2))) w = some (l2, ok) := k2
  have k4' : laws_FnPruned_L0 (n2, ((gs2.1, gs2.2), (os2.1, os2.2))) (l1.1, l1.2) (l1.1, l1.2) (l1.2.length : Int) 0 = some (.inr ()) := k4
  have k3' : laws_sameInts (l1.1, l1.2) l2 = some true := k3
  have r1' : impl_RunCircuit (n, ((gs.1, gs.2), (os.1, os.2))) (ins.1, ins.2) = _ := r1
  have r2' : spec_RunCircuit (n, ((gs.1, gs.2), (os.1, os.2))) (ins.1, ins.2) = _ := r2
  have hrl : (runC n gs.2 os.2 ins.2).1.length ≤ 1048576 := by
    unfold runC
    split
    · rename_i h
      obtain ⟨_, _, _, h3, _⟩ := circOk_in h.1
      simp only [outsG, List.length_map]
      omega
    · simp
  have rest : ∀ z : Option Bool, z = some true → z = some true := fun _ h => h
  simp only [r1', r2', some_bind, beq_self_eq_true, Bool.not_true, cond_false, sameBools_same f1 f2 _ hrl]
  rcases prune_both (n, (gs, os)) with ⟨hc, p1, p2⟩ | ⟨m, hn, hc, a1, a2, b1, b2, p1, p2⟩
  · have hc' : circOk n gs.2 os.2 = false := hc
    have p1' : impl_PruneCircuit (n, ((gs.1, gs.2), (os.1, os.2))) = _ := p1
    have p2' : spec_PruneCircuit (n, ((gs.1, gs.2), (os.1, os.2))) = _ := p2
    have ho : (runC n gs.2 os.2 ins.2).2 = false := by
      unfold runC
      rw [if_neg (fun h => by rw [hc'] at h; cases h.1)]
    have sc : laws_sameCircuit (0, ((true, []), (true, []))) (0, ((true, []), (true, []))) = some true := sameCircuit_same 0 true true true true [] [] (by simp) (by simp)
    simp only [p1', p2', some_bind, beq_self_eq_true, Bool.not_true, cond_false, sc, ho, e2, k1', k2', k3', k4']
  · have hn' : n = (m : Int) := hn
    have hc' : circOk n gs.2 os.2 = true := hc
    obtain ⟨h0, h1, h2, h3, h4, h5⟩ := circOk_in hc'
    subst hn'
    obtain ⟨q1, q2, q3, q4, q5⟩ := prune_laws m gs.2 os.2 hc'
    have p1' : impl_PruneCircuit ((m : Int), ((gs.1, gs.2), (os.1, os.2))) = _ := p1
    have p2' : spec_PruneCircuit ((m : Int), ((gs.1, gs.2), (os.1, os.2))) = _ := p2
    simp only at p1' p2'
    have hol : (mapO (pruneR m gs.2 os.2).1 os.2).length ≤ 1048576 := by unfold mapO; rw [List.length_map]; omega
    have sc : ∀ a b a2 b2, laws_sameCircuit ((m : Int), ((a, (pruneR m gs.2 os.2).2), (a2, mapO (pruneR m gs.2 os.2).1 os.2))) ((m : Int), ((b, (pruneR m gs.2 os.2).2), (b2, mapO (pruneR m gs.2 os.2).1 os.2))) = some true := fun a b a2 b2 => sameCircuit_same _ a b a2 b2 _ _ (by omega) hol
    simp only [p1', p2', some_bind, beq_self_eq_true, Bool.not_true, cond_false, sc]
    by_cases hr : (ins.2.length : Int) = (m : Int)
    · have ho : (runC (m : Int) gs.2 os.2 ins.2) = (outsG (runG ins.2 gs.2) os.2, true) := by
        unfold runC
        rw [if_pos ⟨hc', hr⟩]
      obtain ⟨⟨f3, r3⟩, _⟩ := run_both ((m : Int), ((a1, (pruneR m gs.2 os.2).2), (a2, mapO (pruneR m gs.2 os.2).1 os.2))) ins hi
      have ho2 : runC (m : Int) (pruneR m gs.2 os.2).2 (mapO (pruneR m gs.2 os.2).1 os.2) ins.2 = (outsG (runG ins.2 gs.2) os.2, true) := by
        unfold runC
        rw [if_pos ⟨q1, hr⟩, q3 ins.2 (by omega)]
      have r3' : impl_RunCircuit ((m : Int), ((a1, (pruneR m gs.2 os.2).2), (a2, mapO (pruneR m gs.2 os.2).1 os.2))) (ins.1, ins.2) = some ((f3, (runC (m : Int) (pruneR m gs.2 os.2).2 (mapO (pruneR m gs.2 os.2).1 os.2) ins.2).1), (runC (m : Int) (pruneR m gs.2 os.2).2 (mapO (pruneR m gs.2 os.2).1 os.2) ins.2).2) := r3
      rw [ho2] at r3'
      rw [ho] at hrl
      rcases prune_both ((m : Int), ((a1, (pruneR m gs.2 os.2).2), (a2, mapO (pruneR m gs.2 os.2).1 os.2))) with ⟨hcx, _, _⟩ | ⟨m2, hn2, _, d1, d2, _, _, p3, _⟩
      · have hcx' : circOk (m : Int) (pruneR m gs.2 os.2).2 (mapO (pruneR m gs.2 os.2).1 os.2) = false := hcx
        rw [q1] at hcx'
        cases hcx'
      · have hm2 : m2 = m := by simp only at hn2; omega
        subst hm2
        simp only at p3
        rw [q4, q5] at p3
        rw [ho]
        simp only [cond_true, r3', p3, some_bind, Bool.not_true, cond_false, sameBools_same f3 f1 _ hrl, sc]
        rw [gF (by omega)]
        simp only [e2, k1', k2', k3', k4', some_bind, beq_self_eq_true, Bool.not_true, cond_false]
    · have ho : (runC (m : Int) gs.2 os.2 ins.2).2 = false := by
        unfold runC
        rw [if_neg (fun h => hr h.2)]
      simp only [ho, cond_false, e2, some_bind, k1', k2', k3', k4', beq_self_eq_true, Bool.not_true]

end Go.Proofs.Ytnnoohfloniinaa.R
