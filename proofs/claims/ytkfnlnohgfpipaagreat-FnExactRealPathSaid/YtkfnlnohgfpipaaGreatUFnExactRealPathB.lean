/- The plain law of FnExactRealPath: what the two functions compute is the same. -/
import Derived.Test.YtkfnlnohgfpipaaGreatUFnExactRealPathA
import Derived.Laws.MathBits
set_option linter.all false
namespace Go.Proofs.YtkfnlnohgfpipaaGreat.R
open Go.Rf
/-- a visit ends, and its part is taken off the stack -/
theorem TarL.pop {g : Int → List Int} {G : Int → Prop} {fo0 lo0 fo lo pa : Int → Int} {S0 M done : List Int} {vis0 vis v m : Int} (h : TarL g G v S0 fo0 lo0 vis0 fo lo pa (S0 ++ v :: M) vis done) (hd : ∀ y ∈ g v, y ∈ done) (hl : fo v ≤ lo v) (hm : m ∈ v :: M) (hle : ∀ x ∈ v :: M, m ≤ x)
    {pa2 : Int → Int} (hp1 : ∀ x ∈ v :: M, pa2 x = m) (hp2 : ∀ x, x ∉ v :: M → pa2 x = pa x) : TarP g G v S0 fo0 lo0 vis0 fo lo pa2 S0 vis := by
  obtain ⟨M2, e, hM⟩ := h.stk
  obtain rfl : M = M2 := by simpa using e
  obtain ⟨i1, i2, i3⟩ := List.pairwise_append.1 h.inv.inc
  rw [List.pairwise_cons] at i2
  have hvN : ∀ x ∈ v :: M, fo v ≤ fo x := fun x hx => by
    rcases List.mem_cons.1 hx with rfl | hx
    · exact Int.le_refl _
    · exact Int.le_of_lt (i2.1 x hx)
  have dj : ∀ x ∈ S0, x ∉ v :: M := fun x hx c => by
    have := i3 x hx x c
    omega
  have mem : ∀ x ∈ v :: M, x ∈ S0 ++ v :: M := fun x hx => List.mem_append_right _ hx
  have edge : ∀ x ∈ v :: M, ∀ y ∈ g x, 0 ≤ pa y ∨ y ∈ v :: M := by
    intro x hx y hy
    have hfy : fo y ≠ 0 ∧ (y ∈ S0 → lo v ≤ fo y) := by
      rcases List.mem_cons.1 hx with rfl | hx2
      · exact h.dn y (hd y hy)
      · have ng : ¬ (G x ∨ x = v) := by
          rintro (c | c)
          · exact dj x (h.gs0 x c) hx
          · subst c
            have := i2.1 x hx2
            omega
        exact ⟨(h.inv.blk x (mem x hx) ng).1 y hy, (hM x hx2).2 y hy⟩
    rcases (h.inv.see y).1 hfy.1 with c | c
    · exact Or.inl c
    · rcases List.mem_append.1 c with c | c
      · have a := hfy.2 c
        have b := i3 y c v (by simp)
        omega
      · exact Or.inr c
  have clo : ∀ x, Way g v x → 0 ≤ pa x ∨ x ∈ v :: M := fun x hw => Way.closed (P := fun x => 0 ≤ pa x ∨ x ∈ v :: M) (fun x hx y hy => by
    rcases hx with hx | hx
    · exact Or.inl (h.inv.cl x hx y hy)
    · exact edge x hx y hy) hw (Or.inr (by simp))
  have down : ∀ x ∈ v :: M, Way g v x := fun x hx => by
    rcases List.mem_cons.1 hx with rfl | hx
    · exact Way.here x
    · exact (hM x hx).1
  have up : ∀ (n : Nat) (x : Int), (fo x).toNat = n → x ∈ v :: M → Way g x v := by
    intro n
    induction n using Nat.strongRecOn with
    | _ n ih =>
      intro x hn hx
      by_cases c : x = v
      · subst c
        exact Way.here x
      · have ng : ¬ (G x ∨ x = v) := by
          rintro (q | q)
          · exact dj x (h.gs0 x q) hx
          · exact c q
        obtain ⟨_, y, h2, h3, h4⟩ := h.inv.blk x (mem x hx) ng
        have hy : y ∈ v :: M := by
          rcases clo y ((down x hx).trans h4) with q | q
          · have := h.inv.dis y h2
            omega
          · exact q
        have f1 := h.inv.fr y
        have f2 := h.inv.fr x
        exact h4.trans (ih _ (by omega) y rfl hy)
  have scc1 : ∀ x ∈ v :: M, Scc g v x := fun x hx => ⟨down x hx, up _ x rfl hx⟩
  have scc2 : ∀ x, Scc g v x → x ∈ v :: M := fun x hs => by
    rcases clo x hs.1 with q | q
    · have a : 0 ≤ pa v := Way.closed (P := fun x => 0 ≤ pa x) (fun x hx y hy => h.inv.cl x hx y hy) hs.2 q
      have b := h.inv.dis v (mem v (by simp))
      omega
    · exact q
  have m0 : 0 ≤ m := h.inv.nn m (mem m hm)
  have isl : ∀ x ∈ v :: M, IsL g x m := fun x hx => ⟨(scc1 x hx).symm.trans (scc1 m hm), fun y hy => hle y (scc2 y ((scc1 x hx).trans hy))⟩
  have pos : ∀ x, 0 ≤ pa x → 0 ≤ pa2 x := fun x hx => by
    by_cases c : x ∈ v :: M
    · rw [hp1 x c]; exact m0
    · rw [hp2 x c]; exact hx
  refine ⟨⟨h.inv.fr, fun x => ?_, fun x hx => ?_, fun x hx => h.inv.nn x (List.mem_append_left _ hx), i1, h.gs0, fun x hx y hy => ?_, fun x hx => ?_, fun x hx hg => ?_⟩, h.keep, h.fv, h.vs, ⟨[], by simp, (fun x hx => by cases hx), Or.inl ⟨rfl, hl⟩⟩⟩
  · rw [h.inv.see x, List.mem_append]
    by_cases c : x ∈ v :: M
    · rw [hp1 x c]
      exact ⟨fun _ => Or.inl m0, fun _ => Or.inr (Or.inr c)⟩
    · rw [hp2 x c]
      constructor
      · rintro (a | a | a)
        · exact Or.inl a
        · exact Or.inr a
        · exact absurd a c
      · rintro (a | a)
        · exact Or.inl a
        · exact Or.inr (Or.inl a)
  · rw [hp2 x (dj x hx)]
    exact h.inv.dis x (List.mem_append_left _ hx)
  · by_cases c : x ∈ v :: M
    · rcases edge x c y hy with q | q
      · exact pos y q
      · rw [hp1 y q]; exact m0
    · rw [hp2 x c] at hx
      exact pos y (h.inv.cl x hx y hy)
  · by_cases c : x ∈ v :: M
    · rw [hp1 x c]
      exact isl x c
    · rw [hp2 x c] at hx ⊢
      exact h.inv.val x hx
  · have ng : ¬ (G x ∨ x = v) := by
      rintro (q | q)
      · exact hg q
      · subst q
        exact dj x hx (by simp)
    obtain ⟨b1, y, b2, b3, b4⟩ := h.inv.blk x (List.mem_append_left _ hx) ng
    refine ⟨b1, y, ?_, b3, b4⟩
    rcases List.mem_append.1 b2 with q | q
    · exact q
    · have := i3 x hx y q
      omega
/-- nothing is left on the stack where nothing is being visited -/
theorem TarI.empty {g : Int → List Int} {fo pa : Int → Int} {st : List Int} {vis : Int} (h : TarI g (fun _ => False) fo pa st vis) : st = [] := by
  cases st with
  | nil => rfl
  | cons a l =>
    obtain ⟨_, y, h2, h3, _⟩ := h.blk a (by simp) (fun c => c)
    have := (List.pairwise_cons.1 h.inc).1
    rcases List.mem_cons.1 h2 with rfl | h2
    · omega
    · have := this y h2
      omega
theorem realpath_law (p : DProgram) (hs : SmProgram p) (hw : WfP p) (v : DSight) (path : Bool × List Int) (hv : v.2.length ≤ 1048576) (hp : path.2.length ≤ 1048576) :
    ∃ f g a ok, spec_RealPath p v path = some ((f, a), ok) ∧ impl_RealPath p v path = some ((g, a), ok) ∧ a.length ≤ 1048576 := by
  rw [spec_RealPath_eq, impl_RealPath_eq, l19Path p hs hw v hv path hp, isClassPath p hs v hv path hp, some_bind, some_bind]
  cases h0 : classPath p v.2 path.2 200 with
  | false => exact ⟨true, true, [], false, rfl, rfl, by simp⟩
  | true =>
    obtain ⟨h1, c1, c2, _⟩ := classPath_in h0
    have h := Sees_of h1 hs hw
    obtain ⟨b, e1⟩ := l19Along h v.1 path hp
    have e1' : spec_l19Along p v path = _ := e1
    have e2 := (failsAt (alongL p v.2 (thoseL p p.2.2.1.2 0 (manyS p)) path.2) (fun l => l.isEmpty) b (by rw [alongL_length]; exact hp)).2
    have e3 := realPath h v.1 path (by omega) (by omega)
    have e3' : impl_realPath p v path = _ := e3
    rw [Bool.not_true, cond_false, cond_false, e1', some_bind, e3', some_bind]
    simp only [e2, some_bind]
    by_cases c : failI (alongL p v.2 (thoseL p p.2.2.1.2 0 (manyS p)) path.2) ≥ 0
    · rw [gT c, if_pos c]
      exact ⟨true, true, [], false, rfl, rfl, by simp⟩
    · rw [gF c, if_neg c]
      obtain ⟨a1, a2, a3, a4, a5⟩ := along_whole h path.2 (by omega) c
      rw [l19Real h.ok b _ a1 (by rw [alongL_length]; omega) a2 a3 a4, some_bind]
      exact ⟨false, false, _, true, rfl, rfl, by rw [realL_length, alongL_length]; omega⟩
theorem pure_FnExactRealPath (x0 : DProgram) (x1 : DSight) (x2 : Bool × List Int) (w0 : WfD tyProgram x0) (w1 : WfD tySight x1) (w2 : WfD (.sl (.int .i64)) x2) : laws_FnExactRealPath x0 x1 x2 = some true := by
  have w1' : x1.2.length ≤ big := w1.2.1
  rw [laws_FnExactRealPath_eq]
  by_cases c2 : (x2.2.length : Int) > 1048576
  · rw [gT c2]
  rw [gF c2]
  obtain ⟨r0, e0, h0⟩ := szProgram x0 w0 1048576 (by omega)
  rw [e0, some_bind]
  rcases h0 with h0 | ⟨h0, h1, hs⟩
  · rw [gT h0]
  rw [gF (by omega), szSight x1 r0 (by omega) w1', some_bind]
  rcases Int.lt_or_le (r0) (x1.2.length : Int) with c1 | c1
  · rw [if_neg (by omega), gT (by omega)]
  rw [if_pos c1]
  rw [gF (by omega), toProgram x0 hs, some_bind, toSight x1 (by omega), some_bind, toIntS x2 (by omega), some_bind]
  obtain ⟨f, g, a, ok, e1, e2, ha⟩ := realpath_law (cpProgram x0) (Sm_cp hs) (WfP_cp (WfD_prog w0)) (false, x1.2) (false, x2.2) (by simp only; omega) (by simp only; omega)
  have e1' : spec_RealPath ((cpProgram x0).1, ((cpProgram x0).2.1, (((cpProgram x0).2.2.1.1, (cpProgram x0).2.2.1.2), ((cpProgram x0).2.2.2.1, (cpProgram x0).2.2.2.2)))) (false, x1.2) (false, x2.2) = some ((f, a), ok) := e1
  have e2' : impl_RealPath ((cpProgram x0).1, ((cpProgram x0).2.1, (((cpProgram x0).2.2.1.1, (cpProgram x0).2.2.1.2), ((cpProgram x0).2.2.2.1, (cpProgram x0).2.2.2.2)))) (false, x1.2) (false, x2.2) = some ((g, a), ok) := e2
  have e3 : laws_eqProgram ((cpProgram x0).1, ((cpProgram x0).2.1, (((cpProgram x0).2.2.1.1, (cpProgram x0).2.2.1.2), ((cpProgram x0).2.2.2.1, (cpProgram x0).2.2.2.2)))) ((cpProgram x0).1, ((cpProgram x0).2.1, (((cpProgram x0).2.2.1.1, (cpProgram x0).2.2.1.2), ((cpProgram x0).2.2.2.1, (cpProgram x0).2.2.2.2)))) = some true := eqProgram_same _ (Sm_cp hs)
  obtain ⟨y, z, k1, e4, e5, e6⟩ := markProgram (cpProgram x0) (Sm_cp hs) 1 (by omega) (by omega)
  simp only [e1', e2', some_bind, eqIntS_same g f a ha, beq_self_eq_true, Bool.not_true, cond_false, e3, e4]
  rw [eqSight_same false false x1.2 (by omega), some_bind, Bool.not_true, cond_false, eqIntS_same false false x2.2 (by omega), some_bind, Bool.not_true, cond_false, markSight _ _ _ (by first | omega | (simp only; omega)) (by first | omega | (simp only; omega)) (by first | omega | (simp only; omega)), some_bind, markIntS _ _ _ (by first | omega | (simp only; omega)) (by first | omega | (simp only; omega)) (by first | omega | (simp only; omega)), some_bind, gF (by simp only; omega), markIntS _ _ _ ha (by omega) (by omega), some_bind]
  simp only [heldIntS g a.length 1 ha (by omega) (by omega), some_bind]
  rw [gF (by omega), bF (by simp), gF (by omega), bF (by simp)]

end Go.Proofs.YtkfnlnohgfpipaaGreat.R
