/- The plain law of FnExactRealLasso: what the two functions compute is the same. -/
import Derived.Test.YtkfnlnohgfpipaaGreatUFnExactRealLassoA
import Derived.Laws.MathBits
set_option linter.all false
namespace Go.Proofs.YtkfnlnohgfpipaaGreat.R
open Go.Rf
/-- the first return to a head, for the two functions -/
theorem lasso_both (stem loop : Bool × List Int) (f : Bool) (P : List Int) (hP : P.length ≤ 1000000) (hL : 1 ≤ loop.2.length) (hL2 : loop.2.length ≤ 1000000) (n : Nat) : ∀ j, P.length ≤ stem.2.length + j * loop.2.length + n →
    (∃ x y r, spec_l19RealLasso_L0 stem loop (f, P) ((stem.2.length + j * loop.2.length : Nat) : Int) = some (.inl ((false, x), ((false, y), true))) ∧ impl_realLasso_L0 loop (false, P) (false, headsL P stem.2.length loop.2.length j) ((stem.2.length + j * loop.2.length : Nat) : Int) = some (.inl (r, ((false, x), ((false, y), true)))) ∧ x.length ≤ P.length ∧ y.length ≤ P.length) ∨
    (∃ r, spec_l19RealLasso_L0 stem loop (f, P) ((stem.2.length + j * loop.2.length : Nat) : Int) = some (.inr ()) ∧ impl_realLasso_L0 loop (false, P) (false, headsL P stem.2.length loop.2.length j) ((stem.2.length + j * loop.2.length : Nat) : Int) = some (.inr r)) := by
  induction n with
  | zero =>
    intro j hn
    refine Or.inr ⟨(false, headsL P stem.2.length loop.2.length j), ?_, ?_⟩
    · rw [spec_l19RealLasso_L0_eq, gF (by simp only; omega)]
    · rw [impl_realLasso_L0_eq, gF (by simp only; omega)]
  | succ n ih =>
    intro j hn
    by_cases c : stem.2.length + j * loop.2.length < P.length
    · have e1 := lasso_L2 stem loop f P hP hL j c j 0 (by omega)
      rw [Nat.zero_mul, Nat.add_zero, ← List.range_eq_range'] at e1
      have eg := headsL_get P stem.2.length loop.2.length j (P.getD (stem.2.length + j * loop.2.length) 0)
      have hn2 := pos_succ stem.2.length loop.2.length j
      have ew : IntKind.i64.wrap (((stem.2.length + j * loop.2.length : Nat) : Int) + (loop.2.length : Int)) = ((stem.2.length + (j + 1) * loop.2.length : Nat) : Int) := by
        rw [wr (by omega)]
        omega
      cases hf : (List.range j).find? fun i => P.getD (stem.2.length + j * loop.2.length) 0 == P.getD (stem.2.length + i * loop.2.length) 0 with
      | some k =>
        rw [hf] at e1 eg
        have hk : k < j := List.mem_range.1 (List.mem_of_find?_eq_some hf)
        have hlt : stem.2.length + k * loop.2.length ≤ stem.2.length + j * loop.2.length := Nat.add_le_add_left (Nat.mul_le_mul_right _ (by omega)) _
        refine Or.inl ⟨P.take (stem.2.length + k * loop.2.length), (P.take (stem.2.length + j * loop.2.length)).drop (stem.2.length + k * loop.2.length), (false, headsL P stem.2.length loop.2.length j), ?_, ?_, by rw [List.length_take]; omega, by rw [List.length_drop, List.length_take]; omega⟩
        · rw [spec_l19RealLasso_L0_eq, gT (by simp only; omega), e1, some_bind]
        · have eg' : mapGet (.int .i64) (.int .i64) (headsL P stem.2.length loop.2.length j) (P.getD (stem.2.length + j * loop.2.length) 0) = some ((stem.2.length + k * loop.2.length : Nat) : Int) := eg
          rw [impl_realLasso_L0_eq, gT (by simp only; omega), gT (by omega), gT (by simp only; omega)]
          exact lasso_hit P hP (stem.2.length + k * loop.2.length) (stem.2.length + j * loop.2.length) hlt c (false, headsL P stem.2.length loop.2.length j) _ eg' _
      | none =>
        rw [hf] at e1 eg
        have eg' : mapGet (.int .i64) (.int .i64) (headsL P stem.2.length loop.2.length j) (P.getD (stem.2.length + j * loop.2.length) 0) = none := eg
        have es := headsL_set P stem.2.length loop.2.length j hf
        have s1 : spec_l19RealLasso_L0 stem loop (f, P) ((stem.2.length + j * loop.2.length : Nat) : Int) = spec_l19RealLasso_L0 stem loop (f, P) (IntKind.i64.wrap (((stem.2.length + j * loop.2.length : Nat) : Int) + (loop.2.length : Int))) := by
          rw [spec_l19RealLasso_L0_eq, gT (by simp only; omega), e1, some_bind]
          exact bind_id _
        have s2 : impl_realLasso_L0 loop (false, P) (false, headsL P stem.2.length loop.2.length j) ((stem.2.length + j * loop.2.length : Nat) : Int) = impl_realLasso_L0 loop (false, P) (false, headsL P stem.2.length loop.2.length (j + 1)) (IntKind.i64.wrap (((stem.2.length + j * loop.2.length : Nat) : Int) + (loop.2.length : Int))) := by
          rw [impl_realLasso_L0_eq, gT (by simp only; omega), gT (by omega), gT (by simp only; omega)]
          simp only [Int.toNat_natCast, eg', Option.isSome_none, cond_false]
          rw [gT (by omega), gT (by omega), es]
          exact bind_id _
        rw [s1, s2, ew]
        exact ih (j + 1) (by omega)
    · refine Or.inr ⟨(false, headsL P stem.2.length loop.2.length j), ?_, ?_⟩
      · rw [spec_l19RealLasso_L0_eq, gF (by simp only; omega)]
      · rw [impl_realLasso_L0_eq, gF (by simp only; omega)]
/-- what can be reached along arrows -/
inductive Way (g : Int → List Int) : Int → Int → Prop
  | here (a : Int) : Way g a a
  | step {a b c : Int} : b ∈ g a → Way g b c → Way g a c
theorem Way.trans {g : Int → List Int} {a b c : Int} (h : Way g a b) (h2 : Way g b c) : Way g a c := by
  induction h with
  | here a => exact h2
  | step e _ ih => exact Way.step e (ih h2)
theorem Way.arc {g : Int → List Int} {a b : Int} (h : b ∈ g a) : Way g a b := Way.step h (Way.here b)
theorem Way.snoc {g : Int → List Int} {a b c : Int} (h : Way g a b) (h2 : c ∈ g b) : Way g a c := h.trans (Way.arc h2)
/-- what is closed along arrows keeps its ways in -/
theorem Way.closed {g : Int → List Int} {P : Int → Prop} (hc : ∀ x, P x → ∀ y ∈ g x, P y) {a b : Int} (h : Way g a b) : P a → P b := by
  induction h with
  | here a => exact id
  | step e _ ih => exact fun h => ih (hc _ h _ e)
theorem Way.turn {g r : Int → List Int} (hr : ∀ x y, y ∈ r x → x ∈ g y) {a b : Int} (h : Way r a b) : Way g b a := by
  induction h with
  | here a => exact Way.here a
  | step e _ ih => exact ih.trans (Way.arc (hr _ _ e))
/-- each leads to the other -/
def Scc (g : Int → List Int) (a b : Int) : Prop := Way g a b ∧ Way g b a
theorem Scc.refl (g : Int → List Int) (a : Int) : Scc g a a := ⟨Way.here a, Way.here a⟩
theorem Scc.symm {g : Int → List Int} {a b : Int} (h : Scc g a b) : Scc g b a := ⟨h.2, h.1⟩
theorem Scc.trans {g : Int → List Int} {a b c : Int} (h : Scc g a b) (h2 : Scc g b c) : Scc g a c := ⟨h.1.trans h2.1, h2.2.trans h.2⟩
/-- the least of a part -/
def IsL (g : Int → List Int) (x m : Int) : Prop := Scc g x m ∧ ∀ y, Scc g x y → m ≤ y
theorem IsL.one {g : Int → List Int} {x m k : Int} (h : IsL g x m) (h2 : IsL g x k) : m = k := Int.le_antisymm (h.2 k h2.1) (h2.2 m h.1)
theorem IsL.of {g : Int → List Int} {x y m : Int} (h : IsL g x m) (e : Scc g x y) : IsL g y m := ⟨e.symm.trans h.1, fun z hz => h.2 z (e.trans hz)⟩
structure FinI (g : Int → List Int) (G S : Int → Prop) (o : List Int) : Prop where
  see : ∀ x, S x ↔ (x ∈ o ∨ G x)
  dis : ∀ x ∈ o, ¬ G x
  suc : ∀ x ∈ o, ∀ y ∈ g x, S y
  star : ∀ A z B, o = A ++ z :: B → (∀ w, Way g z w → w ∈ A ∨ w = z) ∨ ∃ y, Scc g z y ∧ y ∉ A ∧ y ≠ z
  nod : o.Nodup
theorem FinI.enter {g : Int → List Int} {G S : Int → Prop} {o : List Int} (h : FinI g G S o) {k : Int} (hk : ¬ S k) : FinI g (fun x => G x ∨ x = k) (fun x => S x ∨ x = k) o := by
  refine ⟨fun x => ?_, fun x hx hc => ?_, fun x hx y hy => Or.inl (h.suc x hx y hy), h.star, h.nod⟩
  · rw [h.see]
    constructor
    · rintro ((a | a) | a)
      · exact Or.inl a
      · exact Or.inr (Or.inl a)
      · exact Or.inr (Or.inr a)
    · rintro (a | a | a)
      · exact Or.inl (Or.inl a)
      · exact Or.inl (Or.inr a)
      · exact Or.inr a
  · rcases hc with hc | hc
    · exact h.dis x hx hc
    · subst hc
      exact hk ((h.see x).2 (Or.inl hx))
theorem FinI.leave {g : Int → List Int} {G S : Int → Prop} {o : List Int} {k : Int} (h : FinI g (fun x => G x ∨ x = k) S o) (hg : ¬ G k) (hs : ∀ y ∈ g k, S y) (hw : ∀ x, G x → Way g x k) : FinI g G S (o ++ [k]) := by
  have hko : k ∉ o := fun c => h.dis k c (Or.inr rfl)
  refine ⟨fun x => ?_, fun x hx hc => ?_, fun x hx y hy => ?_, fun A z B e => ?_, ?_⟩
  · rw [h.see, List.mem_append, List.mem_singleton]
    constructor
    · rintro (a | a | a)
      · exact Or.inl (Or.inl a)
      · exact Or.inr a
      · exact Or.inl (Or.inr a)
    · rintro ((a | a) | a)
      · exact Or.inl a
      · exact Or.inr (Or.inr a)
      · exact Or.inr (Or.inl a)
  · rw [List.mem_append, List.mem_singleton] at hx
    rcases hx with hx | hx
    · exact h.dis x hx (Or.inl hc)
    · subst hx
      exact hg hc
  · rw [List.mem_append, List.mem_singleton] at hx
    rcases hx with hx | hx
    · exact h.suc x hx y hy
    · subst hx
      exact hs y hy
  · rcases List.eq_nil_or_concat B with hB | ⟨B2, b, hB⟩
    · subst hB
      obtain ⟨e1, e2⟩ := List.append_inj' e rfl
      simp only [List.cons.injEq, and_true] at e2
      subst e1 e2
      by_cases c : ∃ y, G y ∧ Way g k y
      · obtain ⟨y, hy, hy2⟩ := c
        refine Or.inr ⟨y, ⟨hy2, hw y hy⟩, fun q => h.dis y q (Or.inl hy), fun q => ?_⟩
        subst q
        exact hg hy
      · refine Or.inl fun w hkw => ?_
        have key : Way g k w ∧ (w ∈ o ∨ w = k) := Way.closed (P := fun x => Way g k x ∧ (x ∈ o ∨ x = k)) (fun x hx y hy => by
          have hky := hx.1.snoc hy
          have hsy : S y := by
            rcases hx.2 with q | q
            · exact h.suc x q y hy
            · subst q
              exact hs y hy
          refine ⟨hky, ?_⟩
          rcases (h.see y).1 hsy with q | q | q
          · exact Or.inl q
          · exact absurd ⟨y, q, hky⟩ c
          · exact Or.inr q) hkw ⟨Way.here k, Or.inr rfl⟩
        exact key.2
    · subst hB
      rw [List.concat_eq_append] at e
      have e' : o ++ [k] = (A ++ z :: B2) ++ [b] := by rw [e]; simp
      obtain ⟨e1, _⟩ := List.append_inj' e' rfl
      exact h.star A z B2 e1
  · rw [List.nodup_append]
    refine ⟨h.nod, List.pairwise_singleton _ _, fun a ha b hb => ?_⟩
    rw [List.mem_singleton] at hb
    rintro rfl
    subst hb
    exact hko ha
structure ColI (g : Int → List Int) (r : Int) (Base G S : Int → Prop) (o : List Int) : Prop where
  see : ∀ x, S x ↔ (Base x ∨ x ∈ o ∨ G x)
  new : ∀ x, x ∈ o ∨ G x → ¬ Base x ∧ Way g r x
  suc : ∀ x ∈ o, ∀ y ∈ g x, S y
theorem ColI.enter {g : Int → List Int} {r : Int} {Base G S : Int → Prop} {o : List Int} (h : ColI g r Base G S o) {k : Int} (hk : ¬ S k) (hr : Way g r k) : ColI g r Base (fun x => G x ∨ x = k) (fun x => S x ∨ x = k) o := by
  refine ⟨fun x => ?_, fun x hx => ?_, fun x hx y hy => Or.inl (h.suc x hx y hy)⟩
  · rw [h.see]
    constructor
    · rintro ((a | a | a) | a)
      · exact Or.inl a
      · exact Or.inr (Or.inl a)
      · exact Or.inr (Or.inr (Or.inl a))
      · exact Or.inr (Or.inr (Or.inr a))
    · rintro (a | a | a | a)
      · exact Or.inl (Or.inl a)
      · exact Or.inl (Or.inr (Or.inl a))
      · exact Or.inl (Or.inr (Or.inr a))
      · exact Or.inr a
  · rcases hx with a | a | a
    · exact h.new x (Or.inl a)
    · exact h.new x (Or.inr a)
    · subst a
      exact ⟨fun c => hk ((h.see x).2 (Or.inl c)), hr⟩
theorem ColI.leave {g : Int → List Int} {r : Int} {Base G S : Int → Prop} {o : List Int} {k : Int} (h : ColI g r Base (fun x => G x ∨ x = k) S o) (hs : ∀ y ∈ g k, S y) : ColI g r Base G S (o ++ [k]) := by
  refine ⟨fun x => ?_, fun x hx => ?_, fun x hx y hy => ?_⟩
  · rw [h.see, List.mem_append, List.mem_singleton]
    constructor
    · rintro (a | a | a | a)
      · exact Or.inl a
      · exact Or.inr (Or.inl (Or.inl a))
      · exact Or.inr (Or.inr a)
      · exact Or.inr (Or.inl (Or.inr a))
    · rintro (a | (a | a) | a)
      · exact Or.inl a
      · exact Or.inr (Or.inl a)
      · exact Or.inr (Or.inr (Or.inr a))
      · exact Or.inr (Or.inr (Or.inl a))
  · rw [List.mem_append, List.mem_singleton] at hx
    rcases hx with (a | a) | a
    · exact h.new x (Or.inl a)
    · exact h.new x (Or.inr (Or.inr a))
    · exact h.new x (Or.inr (Or.inl a))
  · rw [List.mem_append, List.mem_singleton] at hx
    rcases hx with a | a
    · exact h.suc x a y hy
    · subst a
      exact hs y hy
/-- a function with another value at one place -/
def updI (f : Int → Int) (k v : Int) : Int → Int := fun x => if x = k then v else f x
theorem updI_same (f : Int → Int) (k v : Int) : updI f k v k = v := if_pos rfl
theorem updI_other (f : Int → Int) {k x : Int} (v : Int) (h : ¬ x = k) : updI f k v x = f x := if_neg h
/-- the walk with a stack: what holds between calls (G: the points that are being visited) -/
structure TarI (g : Int → List Int) (G : Int → Prop) (fo pa : Int → Int) (st : List Int) (vis : Int) : Prop where
  fr : ∀ x, 0 ≤ fo x ∧ fo x ≤ vis
  see : ∀ x, fo x ≠ 0 ↔ (0 ≤ pa x ∨ x ∈ st)
  dis : ∀ x ∈ st, pa x < 0
  nn : ∀ x ∈ st, 0 ≤ x
  inc : st.Pairwise fun a b => fo a < fo b
  gs : ∀ x, G x → x ∈ st
  cl : ∀ x, 0 ≤ pa x → ∀ y ∈ g x, 0 ≤ pa y
  val : ∀ x, 0 ≤ pa x → IsL g x (pa x)
  blk : ∀ x ∈ st, ¬ G x → (∀ y ∈ g x, fo y ≠ 0) ∧ ∃ y ∈ st, fo y < fo x ∧ Way g x y
theorem TarI.enter {g : Int → List Int} {G : Int → Prop} {fo pa : Int → Int} {st : List Int} {vis v : Int} (h : TarI g G fo pa st vis) (hv : fo v = 0) (hv0 : 0 ≤ v) : TarI g (fun x => G x ∨ x = v) (updI fo v (vis + 1)) pa (st ++ [v]) (vis + 1) := by
  have hvis := h.fr v
  have hns : v ∉ st := fun c => (h.see v).2 (Or.inr c) hv
  have hne : ∀ x ∈ st, ¬ x = v := fun x hx e => by
    subst e
    exact hns hx
  have hup : ∀ y, fo y ≠ 0 → updI fo v (vis + 1) y ≠ 0 := fun y hy => by
    by_cases c : y = v
    · subst c
      exact absurd hv hy
    · rwa [updI_other _ _ c]
  refine ⟨fun x => ?_, fun x => ?_, fun x hx => ?_, fun x hx => ?_, ?_, fun x hx => ?_, h.cl, h.val, fun x hx hg => ?_⟩
  · by_cases c : x = v
    · subst c
      rw [updI_same]
      omega
    · rw [updI_other _ _ c]
      have := h.fr x
      omega
  · by_cases c : x = v
    · subst c
      rw [updI_same]
      exact ⟨fun _ => Or.inr (by simp), fun _ => by omega⟩
    · rw [updI_other _ _ c, h.see, List.mem_append, List.mem_singleton]
      constructor
      · rintro (a | a)
        · exact Or.inl a
        · exact Or.inr (Or.inl a)
      · rintro (a | a | a)
        · exact Or.inl a
        · exact Or.inr a
        · exact absurd a c
  · rw [List.mem_append, List.mem_singleton] at hx
    rcases hx with hx | hx
    · exact h.dis x hx
    · subst hx
      rcases Int.lt_or_le (pa x) 0 with c | c
      · exact c
      · exact absurd hv ((h.see x).2 (Or.inl c))
  · rw [List.mem_append, List.mem_singleton] at hx
    rcases hx with hx | hx
    · exact h.nn x hx
    · omega
  · rw [List.pairwise_append]
    refine ⟨h.inc.imp_of_mem fun {a b} ha hb hab => ?_, List.pairwise_singleton _ _, fun a ha b hb => ?_⟩
    · rw [updI_other _ _ (hne a ha), updI_other _ _ (hne b hb)]
      exact hab
    · rw [List.mem_singleton] at hb
      subst hb
      rw [updI_other _ _ (hne a ha), updI_same]
      have := h.fr a
      omega
  · rw [List.mem_append, List.mem_singleton]
    rcases hx with hx | hx
    · exact Or.inl (h.gs x hx)
    · exact Or.inr hx
  · rw [List.mem_append, List.mem_singleton] at hx
    rcases hx with hx | hx
    · obtain ⟨h1, y, h2, h3, h4⟩ := h.blk x hx (fun c => hg (Or.inl c))
      refine ⟨fun z hz => hup z (h1 z hz), y, List.mem_append_left _ h2, ?_, h4⟩
      rw [updI_other _ _ (hne y h2), updI_other _ _ (hne x hx)]
      exact h3
    · exact absurd (Or.inr hx) hg
/-- within a visit: some arrows are done -/
structure TarL (g : Int → List Int) (G : Int → Prop) (v : Int) (S0 : List Int) (fo0 lo0 : Int → Int) (vis0 : Int) (fo lo pa : Int → Int) (st : List Int) (vis : Int) (done : List Int) : Prop where
  inv : TarI g (fun x => G x ∨ x = v) fo pa st vis
  gs0 : ∀ x, G x → x ∈ S0
  stk : ∃ M, st = S0 ++ v :: M ∧ ∀ x ∈ M, Way g v x ∧ ∀ y ∈ g x, y ∈ S0 → lo v ≤ fo y
  keep : ∀ x, fo0 x ≠ 0 → fo x = fo0 x ∧ lo x = lo0 x
  fv : vis0 < fo v
  vs : vis0 ≤ vis
  lv : lo v ≤ fo v
  low : ∃ u ∈ st, fo u = lo v ∧ Way g v u
  dn : ∀ w ∈ done, fo w ≠ 0 ∧ (w ∈ S0 → lo v ≤ fo w)
/-- behind a visit -/
structure TarP (g : Int → List Int) (G : Int → Prop) (v : Int) (S0 : List Int) (fo0 lo0 : Int → Int) (vis0 : Int) (fo lo pa : Int → Int) (st : List Int) (vis : Int) : Prop where
  inv : TarI g G fo pa st vis
  keep : ∀ x, fo0 x ≠ 0 → fo x = fo0 x ∧ lo x = lo0 x
  fv : vis0 < fo v
  vs : vis0 ≤ vis
  out : ∃ N, st = S0 ++ N ∧ (∀ x ∈ N, Way g v x ∧ ∀ y ∈ g x, y ∈ S0 → lo v ≤ fo y) ∧ ((N = [] ∧ fo v ≤ lo v) ∨ ∃ u ∈ st, fo u = lo v ∧ Way g v u)
theorem TarL.start {g : Int → List Int} {G : Int → Prop} {fo lo pa : Int → Int} {st : List Int} {vis v : Int} (h : TarI g G fo pa st vis) (hv : fo v = 0) (hv0 : 0 ≤ v) : TarL g G v st fo lo vis (updI fo v (vis + 1)) (updI lo v (vis + 1)) pa (st ++ [v]) (vis + 1) [] := by
  refine ⟨h.enter hv hv0, h.gs, ⟨[], rfl, fun x hx => by cases hx⟩, fun x hx => ?_, ?_, by omega, ?_, ⟨v, by simp, ?_, Way.here v⟩, fun w hw => by cases hw⟩
  · have : ¬ x = v := fun e => hx (by rw [e]; exact hv)
    exact ⟨updI_other _ _ this, updI_other _ _ this⟩
  · rw [updI_same]; omega
  · rw [updI_same, updI_same]; omega
  · rw [updI_same, updI_same]
theorem TarL.skip {g : Int → List Int} {G : Int → Prop} {fo0 lo0 fo lo pa : Int → Int} {S0 st done : List Int} {vis0 vis v w : Int} (h : TarL g G v S0 fo0 lo0 vis0 fo lo pa st vis done) (hp : 0 ≤ pa w) : TarL g G v S0 fo0 lo0 vis0 fo lo pa st vis (w :: done) := by
  refine { h with dn := fun x hx => ?_ }
  rcases List.mem_cons.1 hx with rfl | hx
  · refine ⟨(h.inv.see x).2 (Or.inl hp), fun hs => ?_⟩
    obtain ⟨M, e, _⟩ := h.stk
    have := h.inv.dis x (by rw [e]; exact List.mem_append_left _ hs)
    omega
  · exact h.dn x hx
theorem TarL.seen {g : Int → List Int} {G : Int → Prop} {fo0 lo0 fo lo pa : Int → Int} {S0 st done : List Int} {vis0 vis v w : Int} (h : TarL g G v S0 fo0 lo0 vis0 fo lo pa st vis done) (hw : w ∈ g v) (h1 : fo w ≠ 0) (hp : pa w < 0) (hv0 : fo0 v = 0) :
    TarL g G v S0 fo0 lo0 vis0 fo (updI lo v (min (lo v) (fo w))) pa st vis (w :: done) := by
  obtain ⟨M, e, hM⟩ := h.stk
  have hlv := h.lv
  refine ⟨h.inv, h.gs0, ⟨M, e, fun x hx => ⟨(hM x hx).1, fun y hy hs => ?_⟩⟩, fun x hx => ?_, h.fv, h.vs, ?_, ?_, fun x hx => ?_⟩
  · rw [updI_same]
    have := (hM x hx).2 y hy hs
    omega
  · have : ¬ x = v := fun e => hx (by rw [e]; exact hv0)
    rw [updI_other _ _ this]
    exact h.keep x hx
  · rw [updI_same]
    omega
  · rw [updI_same]
    rcases Int.le_total (lo v) (fo w) with c | c
    · obtain ⟨u, h2, h3, h4⟩ := h.low
      exact ⟨u, h2, by omega, h4⟩
    · refine ⟨w, ?_, by omega, Way.arc hw⟩
      rcases (h.inv.see w).1 h1 with q | q
      · omega
      · exact q
  · rw [updI_same]
    rcases List.mem_cons.1 hx with rfl | hx
    · exact ⟨h1, fun _ => by omega⟩
    · have := h.dn x hx
      exact ⟨this.1, fun q => by have := this.2 q; omega⟩
theorem TarL.call {g : Int → List Int} {G : Int → Prop} {fo0 lo0 fo lo pa fo2 lo2 pa2 : Int → Int} {S0 st done st2 : List Int} {vis0 vis vis2 v w : Int} (h : TarL g G v S0 fo0 lo0 vis0 fo lo pa st vis done) (hw : w ∈ g v) (h1 : fo w = 0) (hv0 : fo0 v = 0)
    (p : TarP g (fun x => G x ∨ x = v) w st fo lo vis fo2 lo2 pa2 st2 vis2) : TarL g G v S0 fo0 lo0 vis0 fo2 (updI lo2 v (min (lo2 v) (lo2 w))) pa2 st2 vis2 (w :: done) := by
  obtain ⟨M, e, hM⟩ := h.stk
  obtain ⟨N, e2, hN, hout⟩ := p.out
  have hlv := h.lv
  have hfv := h.fv
  have hvs := h.vs
  have hvs2 := p.vs
  have hpfv := p.fv
  have hvr := h.inv.fr v
  have hvv : v ∈ st := by rw [e]; simp
  have hfv0 : fo v ≠ 0 := (h.inv.see v).2 (Or.inr hvv)
  obtain ⟨k1, k2⟩ := p.keep v hfv0
  have kst : ∀ x ∈ st, fo2 x = fo x ∧ lo2 x = lo x := fun x hx => p.keep x ((h.inv.see x).2 (Or.inr hx))
  have hS : ∀ y, y ∈ S0 → y ∈ st := fun y hy => by rw [e]; exact List.mem_append_left _ hy
  refine ⟨p.inv, h.gs0, ⟨M ++ N, by rw [e2, e]; simp, fun x hx => ?_⟩, fun x hx => ?_, by omega, by omega, ?_, ?_, fun x hx => ?_⟩
  · rw [updI_same, k2]
    rcases List.mem_append.1 hx with hx | hx
    · refine ⟨(hM x hx).1, fun y hy hs => ?_⟩
      have a := (hM x hx).2 y hy hs
      have b := (kst y (hS y hs)).1
      omega
    · refine ⟨Way.step hw (hN x hx).1, fun y hy hs => ?_⟩
      have a := (hN x hx).2 y hy (hS y hs)
      omega
  · have hne : ¬ x = v := fun e => hx (by rw [e]; exact hv0)
    obtain ⟨a1, a2⟩ := h.keep x hx
    obtain ⟨b1, b2⟩ := p.keep x (by rw [a1]; exact hx)
    rw [updI_other _ _ hne, b1, b2, a1, a2]
    exact ⟨rfl, rfl⟩
  · rw [updI_same, k2, k1]
    omega
  · rw [updI_same, k2]
    have old : ∃ u ∈ st2, fo2 u = lo v ∧ Way g v u := by
      obtain ⟨u, h2, h3, h4⟩ := h.low
      exact ⟨u, by rw [e2]; exact List.mem_append_left _ h2, by rw [(kst u h2).1]; exact h3, h4⟩
    rcases Int.le_total (lo v) (lo2 w) with c | c
    · rw [Int.min_eq_left c]
      exact old
    · rw [Int.min_eq_right c]
      rcases hout with ⟨_, q⟩ | ⟨u, q1, q2, q3⟩
      · have : lo2 w = lo v := by omega
        rw [this]
        exact old
      · exact ⟨u, q1, q2, Way.step hw q3⟩
  · rw [updI_same, k2]
    rcases List.mem_cons.1 hx with rfl | hx
    · refine ⟨by omega, fun hs => ?_⟩
      exact absurd h1 ((h.inv.see x).2 (Or.inr (hS x hs)))
    · obtain ⟨a1, a2⟩ := h.dn x hx
      obtain ⟨b1, b2⟩ := p.keep x a1
      rw [b1]
      exact ⟨a1, fun q => by have := a2 q; omega⟩
/-- a visit ends, and its point stays on the stack -/
theorem TarL.stay {g : Int → List Int} {G : Int → Prop} {fo0 lo0 fo lo pa : Int → Int} {S0 st done : List Int} {vis0 vis v : Int} (h : TarL g G v S0 fo0 lo0 vis0 fo lo pa st vis done) (hd : ∀ y ∈ g v, y ∈ done) (hl : lo v < fo v) : TarP g G v S0 fo0 lo0 vis0 fo lo pa st vis := by
  obtain ⟨M, e, hM⟩ := h.stk
  refine ⟨{ h.inv with gs := fun x hx => h.inv.gs x (Or.inl hx), blk := fun x hx hg => ?_ }, h.keep, h.fv, h.vs, ⟨v :: M, e, fun x hx => ?_, Or.inr h.low⟩⟩
  · by_cases c : x = v
    · subst c
      obtain ⟨u, h2, h3, h4⟩ := h.low
      exact ⟨fun y hy => (h.dn y (hd y hy)).1, u, h2, by omega, h4⟩
    · exact h.inv.blk x hx (fun q => q.elim hg c)
  · rcases List.mem_cons.1 hx with rfl | hx
    · exact ⟨Way.here x, fun y hy hs => (h.dn y (hd y hy)).2 hs⟩
    · exact hM x hx
/-- a visit ends, and its part is taken off the stack -/
theorem TarL.pop {g : Int → List Int} {G : Int → Prop} {fo0 lo0 fo lo pa : Int → Int} {S0 M done : List Int} {vis0 vis v m : Int} (h : TarL g G v S0 fo0 lo0 vis0 fo lo pa (S0 ++ v :: M) vis done) (hd : ∀ y ∈ g v, y ∈ done) (hl : fo v ≤ lo v) (hm : m ∈ v :: M) (hle : ∀ x ∈ v :: M, m ≤ x)
    {pa2 : Int → Int} (hp1 : ∀ x ∈ v :: M, pa2 x = m) (hp2 : ∀ x, x ∉ v :: M → pa2 x = pa x) : TarP g G v S0 fo0 lo0 vis0 fo lo pa2 S0 vis := by
  obtain ⟨M2, e, hM⟩ := h.stk
  obtain rfl : M = M2 := by simpa using e
  obtain ⟨i1, i2, i3⟩ := List.pairwise_append.1 h.inv.inc
  rw [List.pairwise_cons] at i2
  have hvN : ∀ x ∈ v :: M, fo v ≤ fo x := fun x hx => by
    rcases List.mem_cons.1 hx with rfl | hx
    · exact Int.le_refl _
    · exact Int.le_of_lt (i2.1 x hx)
  have dj : ∀ x ∈ S0, x ∉ v :: M := fun x hx c => by
    have := i3 x hx x c
    omega
  have mem : ∀ x ∈ v :: M, x ∈ S0 ++ v :: M := fun x hx => List.mem_append_right _ hx
  have edge : ∀ x ∈ v :: M, ∀ y ∈ g x, 0 ≤ pa y ∨ y ∈ v :: M := by
    intro x hx y hy
    have hfy : fo y ≠ 0 ∧ (y ∈ S0 → lo v ≤ fo y) := by
      rcases List.mem_cons.1 hx with rfl | hx2
      · exact h.dn y (hd y hy)
      · have ng : ¬ (G x ∨ x = v) := by
          rintro (c | c)
          · exact dj x (h.gs0 x c) hx
          · subst c
            have := i2.1 x hx2
            omega
        exact ⟨(h.inv.blk x (mem x hx) ng).1 y hy, (hM x hx2).2 y hy⟩
    rcases (h.inv.see y).1 hfy.1 with c | c
    · exact Or.inl c
    · rcases List.mem_append.1 c with c | c
      · have a := hfy.2 c
        have b := i3 y c v (by simp)
        omega
      · exact Or.inr c
  have clo : ∀ x, Way g v x → 0 ≤ pa x ∨ x ∈ v :: M := fun x hw => Way.closed (P := fun x => 0 ≤ pa x ∨ x ∈ v :: M) (fun x hx y hy => by
    rcases hx with hx | hx
    · exact Or.inl (h.inv.cl x hx y hy)
    · exact edge x hx y hy) hw (Or.inr (by simp))
  have down : ∀ x ∈ v :: M, Way g v x := fun x hx => by
    rcases List.mem_cons.1 hx with rfl | hx
    · exact Way.here x
    · exact (hM x hx).1
  have up : ∀ (n : Nat) (x : Int), (fo x).toNat = n → x ∈ v :: M → Way g x v := by
    intro n
    induction n using Nat.strongRecOn with
    | _ n ih =>
      intro x hn hx
      by_cases c : x = v
      · subst c
        exact Way.here x
      · have ng : ¬ (G x ∨ x = v) := by
          rintro (q | q)
          · exact dj x (h.gs0 x q) hx
          · exact c q
        obtain ⟨_, y, h2, h3, h4⟩ := h.inv.blk x (mem x hx) ng
        have hy : y ∈ v :: M := by
          rcases clo y ((down x hx).trans h4) with q | q
          · have := h.inv.dis y h2
            omega
          · exact q
        have f1 := h.inv.fr y
        have f2 := h.inv.fr x
        exact h4.trans (ih _ (by omega) y rfl hy)
  have scc1 : ∀ x ∈ v :: M, Scc g v x := fun x hx => ⟨down x hx, up _ x rfl hx⟩
  have scc2 : ∀ x, Scc g v x → x ∈ v :: M := fun x hs => by
    rcases clo x hs.1 with q | q
    · have a : 0 ≤ pa v := Way.closed (P := fun x => 0 ≤ pa x) (fun x hx y hy => h.inv.cl x hx y hy) hs.2 q
      have b := h.inv.dis v (mem v (by simp))
      omega
    · exact q
  have m0 : 0 ≤ m := h.inv.nn m (mem m hm)
  have isl : ∀ x ∈ v :: M, IsL g x m := fun x hx => ⟨(scc1 x hx).symm.trans (scc1 m hm), fun y hy => hle y (scc2 y ((scc1 x hx).trans hy))⟩
  have pos : ∀ x, 0 ≤ pa x → 0 ≤ pa2 x := fun x hx => by
    by_cases c : x ∈ v :: M
    · rw [hp1 x c]; exact m0
    · rw [hp2 x c]; exact hx
  refine ⟨⟨h.inv.fr, fun x => ?_, fun x hx => ?_, fun x hx => h.inv.nn x (List.mem_append_left _ hx), i1, h.gs0, fun x hx y hy => ?_, fun x hx => ?_, fun x hx hg => ?_⟩, h.keep, h.fv, h.vs, ⟨[], by simp, (fun x hx => by cases hx), Or.inl ⟨rfl, hl⟩⟩⟩
  · rw [h.inv.see x, List.mem_append]
    by_cases c : x ∈ v :: M
    · rw [hp1 x c]
      exact ⟨fun _ => Or.inl m0, fun _ => Or.inr (Or.inr c)⟩
    · rw [hp2 x c]
      constructor
      · rintro (a | a | a)
        · exact Or.inl a
        · exact Or.inr a
        · exact absurd a c
      · rintro (a | a)
        · exact Or.inl a
        · exact Or.inr (Or.inl a)
  · rw [hp2 x (dj x hx)]
    exact h.inv.dis x (List.mem_append_left _ hx)
  · by_cases c : x ∈ v :: M
    · rcases edge x c y hy with q | q
      · exact pos y q
      · rw [hp1 y q]; exact m0
    · rw [hp2 x c] at hx
      exact pos y (h.inv.cl x hx y hy)
  · by_cases c : x ∈ v :: M
    · rw [hp1 x c]
      exact isl x c
    · rw [hp2 x c] at hx ⊢
      exact h.inv.val x hx
  · have ng : ¬ (G x ∨ x = v) := by
      rintro (q | q)
      · exact hg q
      · subst q
        exact dj x hx (by simp)
    obtain ⟨b1, y, b2, b3, b4⟩ := h.inv.blk x (List.mem_append_left _ hx) ng
    refine ⟨b1, y, ?_, b3, b4⟩
    rcases List.mem_append.1 b2 with q | q
    · exact q
    · have := i3 x hx y q
      omega
/-- nothing is left on the stack where nothing is being visited -/
theorem TarI.empty {g : Int → List Int} {fo pa : Int → Int} {st : List Int} {vis : Int} (h : TarI g (fun _ => False) fo pa st vis) : st = [] := by
  cases st with
  | nil => rfl
  | cons a l =>
    obtain ⟨_, y, h2, h3, _⟩ := h.blk a (by simp) (fun c => c)
    have := (List.pairwise_cons.1 h.inc).1
    rcases List.mem_cons.1 h2 with rfl | h2
    · omega
    · have := this y h2
      omega
theorem reallasso_both {p : DProgram} {v : List Int} (h : Sees p v) (fv : Bool) (stem loop : Bool × List Int) (h1 : stem.2.length ≤ 60) (h2 : 1 ≤ loop.2.length) (h3 : loop.2.length ≤ 60) :
    ∃ f1 f2 x y ok, spec_l19RealLasso p (fv, v) stem loop = some ((f1, x), ((f2, y), ok)) ∧ impl_realLasso p (fv, v) stem loop = some ((f1, x), ((f2, y), ok)) ∧ x.length ≤ 1000000 ∧ y.length ≤ 1000000 := by
  have hlim := lim_eq
  obtain ⟨b1, e1⟩ := l19Round h.ok.sml stem loop h1 h3
  obtain ⟨b2, e2⟩ := around h.ok.sml stem loop h1 h3 (by omega)
  have hrl := roundL_length h.ok.sml stem.2 loop.2 h1 h3
  have hr1 : 1 ≤ (roundL p stem.2 loop.2).length := by
    rw [roundL, List.length_append, List.replicate_succ, List.flatten_cons, List.length_append]
    omega
  obtain ⟨b3, e3⟩ := l19Along h fv (b1, roundL p stem.2 loop.2) (by simp only; omega)
  have e4 := (failsAt (alongL p v (thoseL p p.2.2.1.2 0 (manyS p)) (roundL p stem.2 loop.2)) (fun l => l.isEmpty) b3 (by rw [alongL_length]; omega)).2
  have e5 := realPath h fv (b2, roundL p stem.2 loop.2) hr1 (by simp only; omega)
  rw [spec_l19RealLasso_eq, impl_realLasso_eq, e1, some_bind, e2, some_bind]
  simp only [e3, e5, some_bind, e4]
  by_cases c : failI (alongL p v (thoseL p p.2.2.1.2 0 (manyS p)) (roundL p stem.2 loop.2)) ≥ 0
  · rw [gT c]
    simp only [if_pos c]
    rw [impl_realLasso_L0_eq, gF (by simp only [List.length_nil]; omega), some_bind]
    exact ⟨true, true, [], [], false, rfl, rfl, by simp, by simp⟩
  · rw [gF c]
    simp only [if_neg c]
    obtain ⟨a1, a2, a3, a4, a5⟩ := along_whole h (roundL p stem.2 loop.2) hr1 c
    have hlen : (realL p (alongL p v (thoseL p p.2.2.1.2 0 (manyS p)) (roundL p stem.2 loop.2))).length = (roundL p stem.2 loop.2).length := by rw [realL_length, alongL_length]
    rw [l19Real h.ok b3 _ a1 (by rw [alongL_length]; omega) a2 a3 a4, some_bind]
    have hb := lasso_both stem loop false (realL p (alongL p v (thoseL p p.2.2.1.2 0 (manyS p)) (roundL p stem.2 loop.2))) (by rw [hlen]; omega) h2 (by omega) (roundL p stem.2 loop.2).length 0 (by rw [hlen]; omega)
    rw [Nat.zero_mul, Nat.add_zero] at hb
    rcases hb with ⟨x, y, r, g1, g2, g3, g4⟩ | ⟨r, g1, g2⟩
    · have g2' : impl_realLasso_L0 loop (false, realL p (alongL p v (thoseL p p.2.2.1.2 0 (manyS p)) (roundL p stem.2 loop.2))) (false, []) (stem.2.length : Int) = _ := g2
      simp only [g1, g2', some_bind]
      exact ⟨false, false, x, y, true, rfl, rfl, by omega, by omega⟩
    · have g2' : impl_realLasso_L0 loop (false, realL p (alongL p v (thoseL p p.2.2.1.2 0 (manyS p)) (roundL p stem.2 loop.2))) (false, []) (stem.2.length : Int) = _ := g2
      simp only [g1, g2', some_bind]
      exact ⟨true, true, [], [], false, rfl, rfl, by simp, by simp⟩
theorem reallasso_law (p : DProgram) (hs : SmProgram p) (hw : WfP p) (v : DSight) (stem loop : Bool × List Int) (hv : v.2.length ≤ 1048576) (hl1 : stem.2.length ≤ 1048576) (hl2 : loop.2.length ≤ 1048576) :
    ∃ f f2 g g2 x y ok, spec_RealLasso p v stem loop = some ((f, x), ((f2, y), ok)) ∧ impl_RealLasso p v stem loop = some ((g, x), ((g2, y), ok)) ∧ x.length ≤ 1048576 ∧ y.length ≤ 1048576 := by
  obtain ⟨r, e1, e2, h⟩ := roundPath p hs hw v hv stem loop hl1 hl2
  rw [spec_RealLasso_eq, impl_RealLasso_eq, e1, e2, some_bind, some_bind]
  cases r with
  | false => exact ⟨true, true, true, true, [], [], false, rfl, rfl, by simp, by simp⟩
  | true =>
    obtain ⟨h0, h1, h2, h3⟩ := h rfl
    have hS := Sees_of h0 hs hw
    obtain ⟨f1, f2, x, y, ok, e3, e4, e5, e6⟩ := reallasso_both hS v.1 stem loop h1 h2 h3
    have e3' : spec_l19RealLasso p v stem loop = _ := e3
    have e4' : impl_realLasso p v stem loop = _ := e4
    rw [Bool.not_true, cond_false, cond_false, e3', e4']
    exact ⟨f1, f2, f1, f2, x, y, ok, rfl, rfl, by omega, by omega⟩
theorem pure_FnExactRealLasso (x0 : DProgram) (x1 : DSight) (x2 : Bool × List Int) (x3 : Bool × List Int) (w0 : WfD tyProgram x0) (w1 : WfD tySight x1) (w2 : WfD (.sl (.int .i64)) x2) (w3 : WfD (.sl (.int .i64)) x3) : laws_FnExactRealLasso x0 x1 x2 x3 = some true := by
  have w1' : x1.2.length ≤ big := w1.2.1
  rw [laws_FnExactRealLasso_eq]
  by_cases c2 : (x2.2.length : Int) > 1048576
  · rw [gT c2]
  rw [gF c2]
  by_cases c3 : (x3.2.length : Int) > 1048576
  · rw [gT c3]
  rw [gF c3]
  obtain ⟨r0, e0, h0⟩ := szProgram x0 w0 1048576 (by omega)
  rw [e0, some_bind]
  rcases h0 with h0 | ⟨h0, h1, hs⟩
  · rw [gT h0]
  rw [gF (by omega), szSight x1 r0 (by omega) w1', some_bind]
  rcases Int.lt_or_le (r0) (x1.2.length : Int) with c1 | c1
  · rw [if_neg (by omega), gT (by omega)]
  rw [if_pos c1]
  rw [gF (by omega), toProgram x0 hs, some_bind, toSight x1 (by omega), some_bind, toIntS x2 (by omega), some_bind, toIntS x3 (by omega), some_bind]
  obtain ⟨f, f2, g, g2, a, c, ok, e1, e2, ha, hc⟩ := reallasso_law (cpProgram x0) (Sm_cp hs) (WfP_cp (WfD_prog w0)) (false, x1.2) (false, x2.2) (false, x3.2) (by simp only; omega) (by simp only; omega) (by simp only; omega)
  have e1' : spec_RealLasso ((cpProgram x0).1, ((cpProgram x0).2.1, (((cpProgram x0).2.2.1.1, (cpProgram x0).2.2.1.2), ((cpProgram x0).2.2.2.1, (cpProgram x0).2.2.2.2)))) (false, x1.2) (false, x2.2) (false, x3.2) = some ((f, a), ((f2, c), ok)) := e1
  have e2' : impl_RealLasso ((cpProgram x0).1, ((cpProgram x0).2.1, (((cpProgram x0).2.2.1.1, (cpProgram x0).2.2.1.2), ((cpProgram x0).2.2.2.1, (cpProgram x0).2.2.2.2)))) (false, x1.2) (false, x2.2) (false, x3.2) = some ((g, a), ((g2, c), ok)) := e2
  have e3 : laws_eqProgram ((cpProgram x0).1, ((cpProgram x0).2.1, (((cpProgram x0).2.2.1.1, (cpProgram x0).2.2.1.2), ((cpProgram x0).2.2.2.1, (cpProgram x0).2.2.2.2)))) ((cpProgram x0).1, ((cpProgram x0).2.1, (((cpProgram x0).2.2.1.1, (cpProgram x0).2.2.1.2), ((cpProgram x0).2.2.2.1, (cpProgram x0).2.2.2.2)))) = some true := eqProgram_same _ (Sm_cp hs)
  obtain ⟨y, z, k1, e4, e5, e6⟩ := markProgram (cpProgram x0) (Sm_cp hs) 1 (by omega) (by omega)
  simp only [e1', e2', some_bind, eqIntS_same g f a ha, eqIntS_same g2 f2 c hc, beq_self_eq_true, Bool.not_true, cond_false, e3, e4]
  rw [eqSight_same false false x1.2 (by omega), some_bind, Bool.not_true, cond_false, eqIntS_same false false x2.2 (by omega), some_bind, Bool.not_true, cond_false, eqIntS_same false false x3.2 (by omega), some_bind, Bool.not_true, cond_false, markSight _ _ _ (by first | omega | (simp only; omega)) (by first | omega | (simp only; omega)) (by first | omega | (simp only; omega)), some_bind, markIntS _ _ _ (by first | omega | (simp only; omega)) (by first | omega | (simp only; omega)) (by first | omega | (simp only; omega)), some_bind, markIntS _ _ _ (by first | omega | (simp only; omega)) (by first | omega | (simp only; omega)) (by first | omega | (simp only; omega)), some_bind, gF (by simp only; omega), markIntS _ _ _ ha (by omega) (by omega), some_bind, markIntS _ _ _ hc (by first | omega | (simp only; omega)) (by first | omega | (simp only; omega)), some_bind]
  simp only [heldIntS g a.length 1 ha (by omega) (by omega), some_bind]
  rw [gF (by omega)]
  simp only [heldIntS g2 c.length (1 + (a.length : Int)) hc (by omega) (by omega), some_bind]
  rw [gF (by omega), bF (by simp), gF (by omega)]
  first | rw [gF (by omega), bF (by simp)] | (simp only [heldIntS g2 c.length (1 + (a.length : Int)) hc (by omega) (by omega), some_bind]; rw [gF (by omega), bF (by simp)])

end Go.Proofs.YtkfnlnohgfpipaaGreat.R
