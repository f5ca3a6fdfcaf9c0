/- An evaluator over the code of the given program, and its soundness: part 2. -/
import Derived.Test.YtnnoohfloniinaaGreatRfA
import Derived.Laws.StructEq
import Derived.ChangeKeysEq
import Derived.MapKept
set_option linter.all false
namespace Go.Rf

section
variable {P : Program} {H : Hints} {w w' : World} {S : Nat → Prop} {hv : Nat → Value} {F : Nat → Nat → Prop} {g gl : Look}

/-- a lent place is filled -/
theorem Lent_set : ∀ (q : List Step) (t : Ty) (x e : Den t) (F G : Nat → Prop) (cs : List Value) (v : Value) (d : D) (c : List Value), Lent w t x q F cs v → DRep w d.1 d.2 G c → Den.set t x q d = some e → (∀ b, F b → G b → False) →
    ∃ c1 c3, cs = c1 ++ (v :: c3) ∧ c1.length = pathOff q ∧ c.length = 1 ∧ DRep w t e (fun b => F b ∨ G b) (c1 ++ (c ++ c3)) := by
  intro q
  induction q with
  | nil =>
    intro t x e F G cs v d c h hd hs hdj
    cases t <;> simp only [Lent] at h
    rename_i t
    simp only [Den.set] at hs
    have := D_to hs
    subst this
    subst h
    exact ⟨[], [], rfl, rfl, DRep_length _ _ _ _ hd, by simpa using DRep_mono _ _ _ _ _ (fun _ h => .inr h) (fun _ _ => rfl) hd⟩
  | cons s q ih =>
    intro t x e F G cs v d c h hd hs hdj
    cases t with
    | one a =>
      cases s <;> simp only [Lent] at h
      simp only [Den.set] at hs
      obtain ⟨c1, c3, h1, h2, h3, h4⟩ := ih a x e F G cs v d c h hd hs hdj
      exact ⟨c1, c3, h1, by simpa [pathOff, Step.off] using h2, h3, by simpa only [DRep] using h4⟩
    | pair a b =>
      cases s with
      | fst =>
        simp only [Lent] at h
        obtain ⟨k, k', F1, F2, rfl, g1, g2, g3, g4, g5⟩ := h
        simp only [Den.set, Option.map_eq_some_iff] at hs
        obtain ⟨y, hy, rfl⟩ := hs
        obtain ⟨c1, c3, rfl, h2, h3, h4⟩ := ih a x.1 y F1 G k v d c g4 hd hy (fun b h h' => hdj b (g1 b h) h')
        refine ⟨c1, c3 ++ k', by simp, by simpa [pathOff, Step.off] using h2, h3, ?_⟩
        simp only [DRep]
        refine ⟨c1 ++ (c ++ c3), k', fun b => F1 b ∨ G b, F2, by simp, ?_, fun b hb => .inl (g2 b hb), ?_, h4, g5⟩
        · rintro b (hb | hb)
          · exact .inl (g1 b hb)
          · exact .inr hb
        · rintro b (hb | hb) hb'
          · exact g3 b hb hb'
          · exact hdj b (g2 b hb') hb
      | snd n =>
        simp only [Lent] at h
        obtain ⟨hn, k, k', F1, F2, rfl, g1, g2, g3, g4, g5⟩ := h
        simp only [Den.set, hn, if_true, Option.map_eq_some_iff] at hs
        obtain ⟨y, hy, rfl⟩ := hs
        obtain ⟨c1, c3, rfl, h2, h3, h4⟩ := ih b x.2 y F2 G k' v d c g5 hd hy (fun b h h' => hdj b (g2 b h) h')
        refine ⟨k ++ c1, c3, by simp, by simp [pathOff, Step.off, h2, DRep_length _ _ _ _ g4, hn], h3, ?_⟩
        simp only [DRep]
        refine ⟨k, c1 ++ (c ++ c3), F1, fun b => F2 b ∨ G b, by simp, fun b hb => .inl (g1 b hb), ?_, ?_, g4, h4⟩
        · rintro b (hb | hb)
          · exact .inl (g2 b hb)
          · exact .inr hb
        · rintro b hb (hb' | hb')
          · exact g3 b hb hb'
          · exact hdj b (g1 b hb) hb'
      | one => simp only [Lent] at h
      | el i sz => simp only [Lent] at h
    | int k => simp only [Lent] at h
    | bool => simp only [Lent] at h
    | nil => simp only [Lent] at h
    | sl t => simp only [Lent] at h
    | fn f c => simp only [Lent] at h
    | hsl t => simp only [Lent] at h

theorem Lent_length : ∀ (q : List Step) (t : Ty) (x : Den t) (F : Nat → Prop) (cs : List Value) (v : Value), Lent w t x q F cs v → cs.length = size t ∧ cs[pathOff q]? = some v := by
  intro q
  induction q with
  | nil =>
    intro t x F cs v h
    cases t <;> simp only [Lent] at h
    subst h
    exact ⟨rfl, rfl⟩
  | cons s q ih =>
    intro t x F cs v h
    cases t with
    | one a =>
      cases s <;> simp only [Lent] at h
      simpa [pathOff, Step.off, size] using ih a x F cs v h
    | pair a b =>
      cases s with
      | fst =>
        simp only [Lent] at h
        obtain ⟨k, k', F1, F2, rfl, g1, g2, g3, g4, g5⟩ := h
        obtain ⟨h1, h2⟩ := ih a x.1 F1 k v g4
        refine ⟨by simp [size, h1, DRep_length _ _ _ _ g5], ?_⟩
        have := (List.getElem?_eq_some_iff.1 h2).1
        simp only [pathOff, Step.off, Nat.zero_add]
        rw [List.getElem?_append_left this, h2]
      | snd n =>
        simp only [Lent] at h
        obtain ⟨hn, k, k', F1, F2, rfl, g1, g2, g3, g4, g5⟩ := h
        obtain ⟨h1, h2⟩ := ih b x.2 F2 k' v g5
        have hk := DRep_length _ _ _ _ g4
        refine ⟨by simp [size, h1, hk], ?_⟩
        simp only [pathOff, Step.off]
        rw [List.getElem?_append_right (by omega)]
        have : n + pathOff q - k.length = pathOff q := by omega
        rw [this, h2]
      | one => simp only [Lent] at h
      | el i sz => simp only [Lent] at h
    | int k => simp only [Lent] at h
    | bool => simp only [Lent] at h
    | nil => simp only [Lent] at h
    | sl t => simp only [Lent] at h
    | fn f c => simp only [Lent] at h
    | hsl t => simp only [Lent] at h

/-- a place is lent -/
theorem DRep_lend : ∀ (q : List Step) (t u : Ty) (x : Den t) (y : Den (.sl u)) (F : Nat → Prop) (cs : List Value), Den.get t x q = some ⟨.sl u, y⟩ → DRep w t x F cs →
    ∃ v F1 F2, (∀ b, F1 b → F b) ∧ (∀ b, F2 b → F b) ∧ (∀ b, F1 b → F2 b → False) ∧ Lent w t x q F1 cs v ∧ RowB w (DRep w u) (size u) y.1 y.2 F2 v := by
  intro q
  induction q with
  | nil =>
    intro t u x y F cs h hr
    simp only [Den.get, Option.some.injEq, Sigma.mk.injEq] at h
    obtain ⟨rfl, h⟩ := h
    have := eq_of_heq h
    subst this
    simp only [DRep] at hr
    obtain ⟨v, rfl, hr⟩ := hr
    exact ⟨v, fun _ => False, F, fun _ h => h.elim, fun _ h => h, fun _ h _ => h, by simp only [Lent], hr⟩
  | cons s q ih =>
    intro t u x y F cs h hr
    cases t with
    | one a =>
      cases s <;> simp only [Den.get] at h <;> try (cases h; done)
      simp only [DRep] at hr
      obtain ⟨v, F1, F2, h1, h2, h3, h4, h5⟩ := ih a u x y F cs h hr
      exact ⟨v, F1, F2, h1, h2, h3, by simpa only [Lent] using h4, h5⟩
    | pair a b =>
      simp only [DRep] at hr
      obtain ⟨k, k', G1, G2, rfl, g1, g2, g3, g4, g5⟩ := hr
      cases s with
      | fst =>
        simp only [Den.get] at h
        obtain ⟨v, F1, F2, h1, h2, h3, h4, h5⟩ := ih a u x.1 y G1 k h g4
        refine ⟨v, fun b => F1 b ∨ G2 b, F2, ?_, fun b hb => g1 b (h2 b hb), ?_, ?_, h5⟩
        · rintro b (hb | hb)
          · exact g1 b (h1 b hb)
          · exact g2 b hb
        · rintro b (hb | hb) hb'
          · exact h3 b hb hb'
          · exact g3 b (h2 b hb') hb
        · simp only [Lent]
          exact ⟨k, k', F1, G2, rfl, fun b hb => .inl hb, fun b hb => .inr hb, fun b hb hb' => g3 b (h1 b hb) hb', h4, g5⟩
      | snd n =>
        simp only [Den.get] at h
        split at h <;> try (cases h; done)
        rename_i hn
        obtain ⟨v, F1, F2, h1, h2, h3, h4, h5⟩ := ih b u x.2 y G2 k' h g5
        refine ⟨v, fun b => G1 b ∨ F1 b, F2, ?_, fun b hb => g2 b (h2 b hb), ?_, ?_, h5⟩
        · rintro b (hb | hb)
          · exact g1 b hb
          · exact g2 b (h1 b hb)
        · rintro b (hb | hb) hb'
          · exact g3 b hb (h2 b hb')
          · exact h3 b hb hb'
        · simp only [Lent]
          exact ⟨hn, k, k', G1, F1, rfl, fun b hb => .inl hb, fun b hb => .inr hb, fun b hb hb' => g3 b hb (h1 b hb'), g4, h4⟩
      | one => simp [Den.get] at h
      | el i sz => simp [Den.get] at h
    | int k => cases s <;> simp [Den.get] at h
    | bool => cases s <;> simp [Den.get] at h
    | nil => cases s <;> simp [Den.get] at h
    | sl t => cases s <;> simp [Den.get] at h
    | fn f c => cases s <;> simp [Den.get] at h
    | hsl t => cases s <;> simp [Den.get] at h

theorem Out.after {S1 : Nat → Prop} {hv1 : Nat → Value} {F1 : Nat → Nat → Prop} {g1 : Look} {w1 : World} {e e' : Eff} {v : Value} (h : Step' w S hv F g w1 S1 hv1 F1 g1) (hu : updReg g1 e.upd = updReg g e'.upd) (hv' : e.val = e'.val) (ho : Out w1 S1 hv1 F1 g1 e v w') : Out w S hv F g e' v w' := by
  obtain ⟨S', hv2, F', h1, h2⟩ := ho
  rw [hu] at h1 h2
  rw [hv'] at h2
  exact ⟨S', hv2, F', h.trans h1, h2⟩

theorem settled_row {t : Ty} {dp n : Bool} {xs : List (Den t)} : settled gl (.row t dp n xs) = some (.row t dp n xs, []) := rfl

/-- what a lent row settles to -/
theorem settled_inv {r r' : Rg} {gs : List Nat} (h : settled gl r = some (r', gs)) :
    (gs = [] ∧ r' = r) ∨ ∃ t n xs i q d dp m, ∃ (u : Ty) (ys : List (Den u)) (y : Den t), r = .rowl t n xs i q d ∧ gl d = some (.row u dp m ys) ∧ (flat u || dp) = true ∧ Den.set t (xs.getD i (dflt t)) q ⟨.sl u, (m, ys)⟩ = some y ∧ r' = .row t true n (xs.set i y) ∧ gs = [d] := by
  unfold settled at h
  split at h
  · rename_i t n xs i q d
    split at h <;> try (cases h; done)
    rename_i u dp m ys hd
    split at h <;> try (cases h; done)
    rename_i hf
    split at h <;> try (cases h; done)
    rename_i y hy
    simp only [Option.some.injEq, Prod.mk.injEq] at h
    exact .inr ⟨t, n, xs, i, q, d, dp, m, u, ys, y, rfl, hd, hf, hy, h.1.symm, h.2.symm⟩
  · simp only [Option.some.injEq, Prod.mk.injEq] at h
    exact .inl ⟨h.2.symm, h.1.symm⟩

theorem getD_of_get {α : Type} {l : List α} {i : Nat} {e a : α} (h : l[i]? = some e) : l.getD i a = e := by
  simp [List.getD, h]

/-- a lent place is put back: no memory changes -/
theorem settle_step (hI : Inv w S hv F g) (hl : ∀ c r, gl c = some r → g c = some r) {c : Nat} {r r' : Rg} {gs : List Nat} (hc : g c = some r) (h : settled gl r = some (r', gs)) (hne : gs ≠ []) :
    ∃ S' hv' F', Step' w S hv F g w S' hv' F' (updReg g ((c, r') :: gs.map fun e => (e, Rg.gone))) := by
  rcases settled_inv h with ⟨h0, _⟩ | ⟨t, n, xs, i, q, d, dp, m, u, ys, y, rfl, hd, hfd, hy, rfl, rfl⟩
  · exact absurd h0 hne
  have hgd := hl _ _ hd
  have hcd : c ≠ d := by rintro rfl; rw [hc] at hgd; cases hgd
  have hrc := hI.rep c _ hc
  have hrd := hI.rep d _ hgd
  simp only [GRep] at hrc hrd
  obtain ⟨_, hi, hrow⟩ := hrc
  have hD : RowB w (DRep w u) (size u) m ys (F d) (hv d) := by
    refine RowB_mono (fun _ h => h) (fun _ _ => rfl) (fun e G cs hG he => ?_) hrd
    cases dp with
    | true => exact he
    | false =>
      simp at hfd
      exact Rep_flat_D _ _ _ hfd he
  have hfs : updReg g ((c, Rg.row t true n (xs.set i y)) :: [d].map fun e => (e, Rg.gone)) = reLook g gl c (.row t true n (xs.set i y)) [d] [] := by
    have := updReg_re g gl c (.row t true n (xs.set i y)) [d] []
    simpa [frozen] using this
  rw [hfs]
  refine ⟨_, _, _, re_step (w' := w) (v := hv c) (Fd := fun b => F c b ∨ F d b) (Q := fun _ => False) hI hl (fun _ => rfl) ?_ (.inl rfl) (by simpa using hcd) (by simp) (by simp) (by simp [hgd]) (by simp) (Nat.le_refl _) (fun _ _ _ => rfl) ?_ (fun _ h => h.elim) ?_⟩
  · intro k _ hk
    simp [Rg.len] at hk
    simp [glen, hc, Rg.len, hk]
  · rintro b (hb | hb)
    · exact ⟨.inl ⟨c, by simp, hb⟩, hI.old c b hb⟩
    · exact ⟨.inl ⟨d, by simp, hb⟩, hI.old d b hb⟩
  · intro hx
    simp only [GRep, if_true]
    rcases hrow with ⟨_, h2, _⟩ | ⟨h0, b, o, cap, arr, T, G, h1, h2, h3, h4, h5, h6, h7, h8, h9⟩
    · have := congrArg List.length h2
      simp at this
      simp [this] at hi
    · simp only [List.length_map, List.length_zipIdx] at h1 h2 h3
      refine .inr ⟨h0, b, o, cap, arr, T, fun j b => if j = i then (G j b ∨ F d b) else G j b, by simpa using h1, by simpa using h2, by simpa using h3, h4, h5, .inl h6, ?_, ?_, ?_⟩
      · intro j b' hb
        by_cases hj : j = i
        · simp only [hj, if_true] at hb
          rcases hb with hb | hb
          · exact ⟨.inl (h7 _ _ hb).1, (h7 _ _ hb).2⟩
          · exact ⟨.inr hb, fun he => hcd (hI.disj c d b' (he ▸ h6) hb)⟩
        · simp only [hj, if_false] at hb
          exact ⟨.inl (h7 _ _ hb).1, (h7 _ _ hb).2⟩
      · intro j k b' hb hb'
        have key : ∀ j, (if j = i then (G j b' ∨ F d b') else G j b') → G j b' ∨ (j = i ∧ F d b') := by
          intro j hb
          by_cases hj : j = i
          · simp only [hj, if_true] at hb ⊢
            simpa using hb
          · simp only [hj, if_false] at hb; exact .inl hb
        have apart : ∀ j, G j b' → F d b' → False := fun j h h' => hcd (hI.disj c d b' (h7 _ _ h).1 h')
        rcases key j hb with k1 | ⟨e1, k1⟩
        · rcases key k hb' with k2 | ⟨e2, k2⟩
          · exact h8 j k b' k1 k2
          · exact (apart j k1 k2).elim
        · rcases key k hb' with k2 | ⟨e2, k2⟩
          · exact (apart k k2 k1).elim
          · rw [e1, e2]
      · intro j e he
        rw [List.getElem?_set] at he
        by_cases hj : i = j
        · subst hj
          simp only [if_true, hi] at he
          have he : y = e := by simpa using he
          subst he
          have hz : (xs.zipIdx.map fun e => (e.2, e.1))[i]? = some (i, xs[i]) := by simp [List.getElem?_map, List.getElem?_zipIdx, hi]
          obtain ⟨cs, k1, k2, k3⟩ := h9 i _ hz
          rcases k3 with ⟨k3, _⟩ | ⟨_, k3⟩
          · exact absurd rfl k3
          · have hge : xs.getD i (dflt t) = xs[i] := getD_of_get (by simp [hi])
            rw [hge] at hy
            obtain ⟨c1, c3, e1, e2, e3, e4⟩ := Lent_set q t xs[i] y (G i) (F d) cs (hv d) ⟨.sl u, (m, ys)⟩ [hv d] k3 (by simp only [DRep]; exact ⟨_, rfl, hD⟩) hy (fun b h h' => hcd (hI.disj c d b (h7 _ _ h).1 h'))
            refine ⟨cs, k1, k2, ?_⟩
            have : c1 ++ ([hv d] ++ c3) = cs := by rw [e1]; rfl
            rw [this] at e4
            simp only [if_true]
            exact e4
        · simp only [hj, if_false] at he
          have hjl : j < xs.length := (List.getElem?_eq_some_iff.1 he).1
          have hz : (xs.zipIdx.map fun e => (e.2, e.1))[j]? = some (j, e) := by simp [List.getElem?_map, List.getElem?_zipIdx, he]
          obtain ⟨cs, k1, k2, k3⟩ := h9 j _ hz
          rcases k3 with ⟨_, k3⟩ | ⟨k3, _⟩
          · refine ⟨cs, k1, k2, ?_⟩
            have : ¬ (j = i) := fun h => hj h.symm
            simp only [this, if_false]
            exact k3
          · exact absurd k3.symm hj
end
end Go.Rf

namespace Go.Rf

section
variable {P : Program} {H : Hints} {w w' : World} {S : Nat → Prop} {hv : Nat → Value} {F : Nat → Nat → Prop} {g gl : Look}

/-- a place of a row's element is lent: what is taken out becomes a region of its own -/
theorem lend_step (hI : Inv w S hv F g) {c d : Nat} {t u : Ty} {n : Bool} {xs : List (Den t)} {i : Nat} {q : List Step} {y : Den (.sl u)} {x : Den t} (hc : g c = some (.row t true n xs)) (hd : g d = none) (hx : xs[i]? = some x) (hq : Den.get t x q = some ⟨.sl u, y⟩) :
    ∃ v b o cap S' hv' F', hv c = .slice (some ⟨b, o, none⟩) xs.length cap ∧ rd w b (o + (i * size t + pathOff q)) [v] ∧
      Step' w S hv F g w S' hv' F' (updReg g [(c, .rowl t n xs i q d), (d, .row u true y.1 y.2)]) ∧ hv' d = v ∧ v.oneCell' = true := by
  have hcd : c ≠ d := by rintro rfl; rw [hc] at hd; cases hd
  have hrc := hI.rep c _ hc
  simp only [GRep] at hrc
  have hi : i < xs.length := (List.getElem?_eq_some_iff.1 hx).1
  rcases hrc with ⟨_, h2, _⟩ | ⟨h0, b, o, cap, arr, T, G, h1, h2, h3, h4, h5, h6, h7, h8, h9⟩
  · simp [h2] at hi
  obtain ⟨cs, k1, k2, k3⟩ := h9 i x hx
  simp only [ERep] at k3
  obtain ⟨v, F1, F2, l1, l2, l3, l4, l5⟩ := DRep_lend q t u x y (G i) cs hq k3
  obtain ⟨l6, l7⟩ := Lent_length q t x F1 cs v l4
  have hone : v.oneCell' = true := DRep_one _ _ _ _ k3 v (List.mem_of_getElem? l7)
  have hu : ∀ k, updReg g [(c, Rg.rowl t n xs i q d), (d, Rg.row u true y.1 y.2)] k = if k = c then some (.rowl t n xs i q d) else if k = d then some (.row u true y.1 y.2) else g k := fun k => by
    rw [updReg_cons, updReg_cons, updReg_nil]
  refine ⟨v, b, o, cap, S, fun k => if k = d then v else hv k, fun k b' => if k = c then (F c b' ∧ ¬ F2 b') else if k = d then F2 b' else F k b', h1, ?_, ?_, by simp, hone⟩
  · intro j v' hj
    match j, hj with
    | 0, hj =>
      simp at hj
      subst hj
      have := k2 _ _ l7
      simpa [Nat.add_assoc] using this
  have hF2 : ∀ b', F2 b' → F c b' ∧ b' ≠ b := fun b' h => h7 i b' (l2 b' h)
  refine mkStep hI (fun k => k = c ∨ k = d) ?_ ?_ (Nat.le_refl _) (fun _ _ _ => rfl) (fun _ h => h) ?_ ?_ ?_ ?_ ?_ ?_ ?_ ?_ (fun _ h => .inl h) (fun b h => hI.sold b h) ?_
  · intro k hk
    simp only [not_or] at hk
    simp [hu, hk]
  · intro k hk
    simp only [not_or] at hk
    funext b'
    simp [hk]
  · intro k hk
    have : k ≠ d := by rintro rfl; exact hk hd
    simp [this]
  · intro k hk _
    rw [hu]
    rcases hk with rfl | rfl
    · simp
    · simp [Ne.symm hcd]
  · intro k m hk hg hm
    rcases hk with rfl | rfl
    · simpa [glen, hu, Rg.len, hc] using hm
    · exact absurd hd hg
  · intro hE k r hk hr
    rw [hu] at hr
    rcases hk with rfl | rfl
    · simp at hr
      subst hr
      simp only [GRep]
      refine ⟨by simp [hu, Ne.symm hcd], hi, ?_⟩
      simp only [hcd, if_false, if_true]
      refine .inr ⟨h0, b, o, cap, arr, T, fun j b' => if j = i then F1 b' else G j b', by simpa using h1, by simpa using h2, by simpa using h3, h4, h5, ⟨h6, fun h => (hF2 b h).2 rfl⟩, ?_, ?_, ?_⟩
      · intro j b' hb
        by_cases hj : j = i
        · simp only [hj, if_true] at hb
          exact ⟨⟨(h7 i b' (l1 b' hb)).1, fun h => l3 b' hb h⟩, (h7 i b' (l1 b' hb)).2⟩
        · simp only [hj, if_false] at hb
          exact ⟨⟨(h7 j b' hb).1, fun h => hj (h8 j i b' hb (l2 b' h))⟩, (h7 j b' hb).2⟩
      · intro j j' b' hb hb'
        have key : ∀ j, (if j = i then F1 b' else G j b') → G j b' := by
          intro j hb
          by_cases hj : j = i
          · simp only [hj, if_true] at hb ⊢
            exact l1 b' hb
          · simpa only [hj, if_false] using hb
        exact h8 j j' b' (key j hb) (key j' hb')
      · intro j e he
        simp only [List.getElem?_map, List.getElem?_zipIdx, Option.map_map, Option.map_eq_some_iff] at he
        obtain ⟨e', he', rfl⟩ := he
        simp only [Function.comp, Nat.zero_add]
        obtain ⟨cs', m1, m2, m3⟩ := h9 j e' he'
        refine ⟨cs', m1, m2, ?_⟩
        by_cases hj : j = i
        · subst hj
          rw [hx] at he'
          simp at he'
          subst he'
          obtain ⟨v', F1', F2', n1, n2, n3, n4, n5⟩ := DRep_lend q t u x y (G j) cs' hq m3
          right
          simp only [if_true, true_and]
          have : cs' = cs := by
            apply List.ext_getElem?
            intro z
            by_cases hz : z < size t
            · have e1 : cs'[z]? = some (cs'[z]'(by omega)) := List.getElem?_eq_getElem (by omega)
              have e2 : cs[z]? = some (cs[z]'(by omega)) := List.getElem?_eq_getElem (by omega)
              have f1 := m2 z _ e1
              have f2 := k2 z _ e2
              rw [f1] at f2
              rw [e1, e2, f2]
            · rw [List.getElem?_eq_none (by omega), List.getElem?_eq_none (by omega)]
          rw [this]
          exact l4
        · left
          simp only [hj, if_false]
          exact ⟨hj, m3⟩
    · simp [Ne.symm hcd] at hr
      subst hr
      simp only [GRep, if_true, Ne.symm hcd, if_false]
      exact l5
  · intro k b' hk hb
    rcases hk with rfl | rfl
    · exact ⟨.rowl t n xs i q d, by simp [hu], rfl⟩
    · exact ⟨.row u true y.1 y.2, by simp [hu, Ne.symm hcd], rfl⟩
  · intro k b' hk hb
    rcases hk with rfl | rfl
    · simp at hb
      exact .inl ⟨_, .inl rfl, hb.1⟩
    · simp [Ne.symm hcd] at hb
      exact .inl ⟨c, .inl rfl, (hF2 b' hb).1⟩
  · intro k b' hk hb
    rcases hk with rfl | rfl
    · simp at hb
      exact hI.old _ _ hb.1
    · simp [Ne.symm hcd] at hb
      exact hI.old _ _ (hF2 b' hb).1
  · intro k k' b' hk hk' hb hb'
    rcases hk with rfl | rfl
    · rcases hk' with rfl | rfl
      · rfl
      · simp at hb
        simp [Ne.symm hcd] at hb'
        exact absurd hb' hb.2
    · rcases hk' with rfl | rfl
      · simp at hb'
        simp [Ne.symm hcd] at hb
        exact absurd hb hb'.2
      · rfl
  · intro k b' hk hb
    rcases hk with rfl | rfl
    · simp at hb
      exact hI.shr _ _ hb.1
    · simp [Ne.symm hcd] at hb
      exact hI.shr _ _ (hF2 b' hb).1

theorem ag_one {a : SV} {x : Bool × Nat} (h : a.ag = some x) (h1 : x.1 = false) : x.2 = 1 := by
  cases a <;> simp [SV.ag] at h <;> subst h <;> simp at h1 ⊢
  rename_i t _
  cases t <;> simp [isAgg, size] at h1 ⊢

theorem load_exec (hf : Fit P H) (o : Oper) (ρ : Operand → Value) (E : Nat) (x : Operand) (ho : o.op = .load E x) {ag : Bool × Nat} (hE : agOf H E = some ag) {b off : Nat} (hx : ρ x = .pointer (some ⟨b, off, none⟩)) {cs : List Value} (hr : rd w b off cs)
    {a : SV} (ha : a.ag = some ag) (hc : CRep w S hv g false a cs) : ∃ v, (execOp ρ o).run P w = .ok (.value v) w ∧ VR w S hv g a v := by
  obtain ⟨ag, n⟩ := ag
  obtain ⟨h1, h2, h3⟩ := ag_spec ha
  obtain ⟨v, hv, hp⟩ := run_loadVar (w := w) hf hE hr (by rw [CRep_length _ _ hc]; exact h2.symm) (fun h => ag_one ha h)
  refine ⟨v, ?_, VR_of_cells ha hp hc⟩
  unfold execOp
  simp [ho, hx, Instr.loadAt, Instr.sureAddr, hv]

theorem load_same (hf : Fit P H) (hI : Inv w S hv F g) (o : Oper) (ρ : Operand → Value) (E : Nat) (x : Operand) (ho : o.op = .load E x) {ag : Bool × Nat} (hE : agOf H E = some ag) {b off : Nat} (hx : ρ x = .pointer (some ⟨b, off, none⟩)) {cs : List Value} (hr : rd w b off cs)
    {a : SV} (ha : a.ag = some ag) (hc : CRep w S hv g false a cs) : Res P ((execOp ρ o).run P w) (Out w S hv F g ⟨a, []⟩) := by
  obtain ⟨v, h1, h2⟩ := load_exec hf o ρ E x ho hE hx hr ha hc
  exact Res_value h1 (Out.same hI h2)

theorem rd_mid {b o : Nat} {c1 c2 c3 : List Value} (h : rd w b o (c1 ++ (c2 ++ c3))) : rd w b (o + c1.length) c2 := (rd_append.1 (rd_append.1 h).2).1

theorem adr_ptr {b o n : Nat} : adr (.pointer (some ⟨b, o, none⟩)) n = .pointer (some ⟨b, o + n, none⟩) := rfl
theorem adr_slice {b o n k cap : Nat} : adr (.slice (some ⟨b, o, none⟩) k cap) n = .pointer (some ⟨b, o + n, none⟩) := rfl

/-- a row's element is read -/
theorem load_row (hf : Fit P H) (hI : Inv w S hv F g) (o : Oper) (ρ : Operand → Value) (E : Nat) (x : Operand) (ho : o.op = .load E x) {ag : Bool × Nat} (hE : agOf H E = some ag)
    {c i : Nat} {t : Ty} {dp n : Bool} {xs : List (Den t)} {q : List Step} (hc : g c = some (.row t dp n xs)) (hx : ρ x = adr (hv c) (pathOff (.el i (size t) :: q))) (hi : i < xs.length) {d : D} (hd : Den.get t (xs.getD i (dflt t)) q = some d)
    (hfd : (flat d.1 || !dp) = true) (ha : (SV.v d.1 d.2).ag = some ag) : Res P ((execOp ρ o).run P w) (Out w S hv F g ⟨.v d.1 d.2, []⟩) := by
  have hrc := hI.rep c _ hc
  simp only [GRep] at hrc
  rcases hrc with ⟨_, h2, _⟩ | ⟨h0, b, off, cap, arr, T, G, h1, h2, h3, h4, h5, h6, h7, h8, h9⟩
  · simp [h2] at hi
  have hxi : xs[i]? = some xs[i] := by simp [hi]
  rw [getD_of_get hxi] at hd
  obtain ⟨cs, k1, k2, k3⟩ := h9 i _ hxi
  obtain ⟨c1, c2, c3, rfl, l1, l2⟩ := ERep_get hd k3
  rw [h1] at hx
  have hr := rd_mid k2
  refine load_same hf hI o ρ E x ho hE (b := b) (off := off + i * size t + c1.length) (by rw [hx, adr_slice]; simp [pathOff, Step.off, l1, Nat.add_assoc]) hr ha ?_
  simp only [CRep]
  cases dp with
  | false => exact l2
  | true =>
    simp at hfd
    exact Rep_flat _ _ _ hfd (DRep_Rep (S := fun _ => True) _ _ _ _ (fun _ _ => trivial) l2)

theorem load_lend (hf : Fit P H) (hI : Inv w S hv F g) (o : Oper) (ρ : Operand → Value) (E : Nat) (x : Operand) (ho : o.op = .load E x) {ag : Bool × Nat} (hE : agOf H E = some ag)
    {c i e : Nat} {t u : Ty} {n : Bool} {xs : List (Den t)} {q : List Step} {y : Den (.sl u)} (hc : g c = some (.row t true n xs)) (he : g e = none) (hx : ρ x = adr (hv c) (pathOff (.el i (size t) :: q))) (hi : i < xs.length) (hd : Den.get t (xs.getD i (dflt t)) q = some ⟨.sl u, y⟩)
    (ha : (SV.ref e).ag = some ag) : Res P ((execOp ρ o).run P w) (Out w S hv F g ⟨.ref e, [(c, .rowl t n xs i q e), (e, .row u true y.1 y.2)]⟩) := by
  have hxi : xs[i]? = some xs[i] := by simp [hi]
  rw [getD_of_get hxi] at hd
  obtain ⟨v, b, off, cap, S', hv', F', h1, h2, h3, h4, h5⟩ := lend_step hI hc he hxi hd
  rw [h1] at hx
  have hce : CRep w S' hv' (updReg g [(c, .rowl t n xs i q e), (e, .row u true y.1 y.2)]) false (.ref e) [v] := by
    simp only [CRep]
    refine ⟨?_, by rw [h4]; exact h5, by rw [h4]⟩
    rw [updReg_cons]
    split
    · simp
    · rw [updReg_cons]; simp
  obtain ⟨v', k1, k2⟩ := load_exec hf o ρ E x ho hE (b := b) (off := off + (i * size t + pathOff q)) (by rw [hx, adr_slice]; rfl) h2 ha hce
  exact Res_value k1 ⟨S', hv', F', h3, k2⟩
end
end Go.Rf

namespace Go.Rf

section
variable {P : Program} {H : Hints} {w w' : World} {S : Nat → Prop} {hv : Nat → Value} {F : Nat → Nat → Prop} {g gl : Look}

theorem VR_ptr {c : Nat} {p : List Step} {v : Value} (h : VR w S hv g (.ptr c p) v) : g c ≠ none ∧ v = adr (hv c) (pathOff p) ∧ based (hv c) ∧ PtrIn g c p := by
  rw [VR_cell rfl] at h
  simp only [CRep, List.cons.injEq, and_true] at h
  exact h

theorem VR_ptr_mk {c : Nat} {p : List Step} {v : Value} (h : g c ≠ none ∧ v = adr (hv c) (pathOff p) ∧ based (hv c) ∧ PtrIn g c p) : VR w S hv g (.ptr c p) v := by
  rw [VR_cell rfl]
  simp only [CRep, List.cons.injEq, and_true]
  exact h

theorem ptr_in {c i sz : Nat} {q : List Step} {r : Rg} {n : Nat} (hc : g c = some r) (hn : r.len = some n) (h : PtrIn g c (.el i sz :: q)) : i < n := by
  unfold PtrIn at h
  exact h n (by simp [glen, hc, hn])

theorem Res.mono {r : Result Next} {Post Post' : Value → World → Prop} (h : Res P r Post) (hp : ∀ v w, Post v w → Post' v w) : Res P r Post' := by
  cases r with
  | ok x w' =>
    cases x <;> simp only [Res] at h ⊢ <;> try (exact hp _ _ h)
    case enter f args => exact h.mono fun e w'' ⟨v, he, h'⟩ => ⟨v, he, hp _ _ h'⟩
    all_goals exact h
  | halt x w' => exact h

theorem load_sound (hf : Fit P H) (hI : Inv w S hv F g) (hl : ∀ c r, gl c = some r → g c = some r) (o : Oper) (ρ : Operand → Value) (E : Nat) (x : Operand) (ho : o.op = .load E x) {ag : Bool × Nat} (hE : agOf H E = some ag)
    {d : Nat} (hd : gl d = none → g d = none) {a : SV} (hx : VR w S hv g a (ρ x)) {e : Eff} (he : (loadE gl d ag a).run = some e) : Res P ((execOp ρ o).run P w) (Out w S hv F g e) := by
  have done : ∀ (y : SV) (upd : List (Nat × Rg)) (e : Eff), (match decide (y.ag = some ag) with
    | true => (M.ret ⟨y, upd⟩ : M Eff)
    | false => .fail).run = some e → y.ag = some ag ∧ e = ⟨y, upd⟩ := by
    intro y upd e h
    split at h
    · rename_i h'
      simp only [M.run, Option.some.injEq] at h
      exact ⟨of_decide_eq_true h', h.symm⟩
    · simp [M.run] at h
  unfold loadE at he
  cases a with
  | sp t y =>
    obtain ⟨h1, rfl⟩ := done _ _ _ he
    rw [VR_cell rfl] at hx
    simp only [CRep, List.cons.injEq, and_true] at hx
    obtain ⟨b, off, cs, hx, hb, hr, hc⟩ := hx
    exact load_same hf hI o ρ E x ho hE hx hr h1 (by simpa only [CRep] using hc)
  | ptr c p =>
    replace hx := VR_ptr hx
    obtain ⟨hg, hx, hbs, hin⟩ := hx
    simp only at he
    split at he
    · -- a variable
      rename_i b hc
      split at he
      rotate_left
      · simp [M.run] at he
      rename_i y hy
      obtain ⟨h1, rfl⟩ := done _ _ _ he
      have hr := hI.rep c _ (hl _ _ hc)
      simp only [GRep] at hr
      obtain ⟨bl, arr, T, e1, e2, e3, e4⟩ := hr
      obtain ⟨c1, c2, c3, f1, f2, f3⟩ := CRep_get p b y _ hy e4
      have hrd : rd w bl 0 (c1 ++ (c2 ++ c3)) := by
        intro j v hj
        simp only [Nat.zero_add, World.cell?, e2]
        rw [← f1] at hj
        simpa using hj
      rw [e1, adr_ptr] at hx
      exact load_same hf hI o ρ E x ho hE (by rw [hx, ← f2]) (rd_mid hrd) h1 f3
    · -- a frozen variable
      rename_i t y hc
      split at he
      rotate_left
      · simp [M.run] at he
      rename_i z hz
      obtain ⟨h1, rfl⟩ := done _ _ _ he
      have hr := hI.rep c _ (hl _ _ hc)
      simp only [GRep] at hr
      obtain ⟨bl, cs, e1, e2, e3, e4⟩ := hr
      obtain ⟨c1, c2, c3, rfl, f2, f3⟩ := Rep_get p t y cs z hz e4
      rw [e1, adr_ptr] at hx
      exact load_same hf hI o ρ E x ho hE (by rw [hx, ← f2]) (rd_mid e3) h1 (by simpa only [CRep] using f3)
    · -- a frozen row
      rename_i t y hc
      split at he
      rotate_left
      · simp [M.run] at he
      rename_i i sz q
      split at he
      rotate_left
      · simp [M.run] at he
      rename_i z hsz hz
      obtain ⟨h1, rfl⟩ := done _ _ _ he
      have hsz : sz = size t := by simpa using hsz
      subst hsz
      have hgc := hl _ _ hc
      have hr := hI.rep c _ hgc
      simp only [GRep, Rep] at hr
      have hi : i < y.2.length := ptr_in hgc rfl hin
      rcases hr.2 with ⟨_, h2, _⟩ | ⟨_, b, off, cap, k1, k2, k3, k4⟩ | ⟨_, h2, _⟩
      · simp [h2] at hi
      rotate_left
      · simp [h2] at hi
      have hxi : y.2[i]? = some y.2[i] := by simp [hi]
      rw [getD_of_get hxi] at hz
      obtain ⟨_, cs, m1, m2, m3⟩ := k4 i _ hxi
      obtain ⟨c1, c2, c3, rfl, f2, f3⟩ := Rep_get q t _ cs z hz m3
      simp only [List.cons.injEq, and_true] at k1
      rw [k1, adr_slice] at hx
      exact load_same hf hI o ρ E x ho hE (off := off + i * size t + c1.length) (by rw [hx]; simp [pathOff, Step.off, f2, Nat.add_assoc]) (rd_mid m2) h1 (by simpa only [CRep] using f3)
    · -- a row
      rename_i r hbox hfzb hfz hc
      split at he
      rotate_left
      · simp [M.run] at he
      rename_i t dp n xs gs i sz q hset
      split at he
      rotate_left
      · simp [M.run] at he
      rename_i u y hsz hz
      have hsz : sz = size t := by simpa using hsz
      subst hsz
      have hgc := hl _ _ hc
      -- the state with all put back
      have hmid : ∃ S1 hv1 F1 g1, Step' w S hv F g w S1 hv1 F1 g1 ∧ g1 = (if gs = [] then g else updReg g ((c, .row t dp n xs) :: gs.map fun e => (e, Rg.gone))) ∧ g1 c = some (.row t dp n xs) := by
        cases gs with
        | nil =>
          refine ⟨S, hv, F, g, Step'.refl hI, by simp, ?_⟩
          rcases settled_inv hset with ⟨_, h⟩ | ⟨_, _, _, _, _, _, _, _, _, _, _, _, _, _, _, _, h⟩
          · rw [h]; exact hgc
          · cases h
        | cons k ks =>
          obtain ⟨S1, hv1, F1, h⟩ := settle_step hI hl hgc hset (by simp)
          exact ⟨S1, hv1, F1, _, h, by simp, by rw [updReg_cons]; simp⟩
      obtain ⟨S1, hv1, F1, g1, hst, hg1, hc1⟩ := hmid
      have hx1 := hst.ext
      have hxv : hv1 c = hv c := hx1.hv c hg
      have hin1 := PtrIn_mono hx1 hg hin
      have hi : i < xs.length := ptr_in hc1 rfl hin1
      split at he
      · -- read
        rename_i hfd
        obtain ⟨h1, rfl⟩ := done _ _ _ he
        have ho1 := load_row hf hst.inv o ρ E x ho hE (d := ⟨u, y⟩) hc1 (by rw [hx, hxv]) hi hz hfd h1
        refine Res.mono ho1 fun v w' h => ?_
        refine Out.after (e := ⟨.v u y, []⟩) hst ?_ rfl h
        rw [hg1]
        cases gs <;> rfl
      · -- lent
        rename_i hfd
        split at he
        rotate_left
        · simp [M.run] at he
        rename_i u y hz
        obtain ⟨hgd, he⟩ := fresh_run he
        obtain ⟨h1, rfl⟩ := done _ _ _ he
        have hdp : dp = true := by
          cases dp <;> simp at hfd ⊢
        subst hdp
        have hgd' := hd hgd
        have hd1 : g1 d = none := by
          rw [hg1]
          cases gs with
          | nil => exact hgd'
          | cons k ks =>
            have : d ≠ c := by rintro rfl; exact hg hgd'
            rw [if_neg (by simp), updReg_cons, if_neg this, updReg_gone, if_neg]
            · exact hgd'
            · intro hm
              rcases settled_inv hset with ⟨h, _⟩ | ⟨_, _, _, _, _, k', _, _, _, _, _, _, h2, _, _, _, h3⟩
              · cases h
              · rw [h3] at hm
                simp at hm
                subst hm
                rw [hgd] at h2
                cases h2
        have ho1 := load_lend hf hst.inv o ρ E x ho hE hc1 hd1 (by rw [hx, hxv]) hi hz h1
        refine Res.mono ho1 fun v w' h => ?_
        refine Out.after (e := ⟨.ref d, [(c, _), (d, _)]⟩) hst ?_ rfl h
        rw [hg1]
        cases gs with
        | nil => rfl
        | cons k ks =>
          funext z
          rw [if_neg (by simp)]
          simp only [updReg_cons, updReg_gone, updReg_nil]
          by_cases hzc : z = c
          · simp [hzc]
          · simp [hzc]
    · simp [M.run] at he
  | _ => simp [M.run] at he
end
end Go.Rf

namespace Go.Rf

section
variable {P : Program} {H : Hints} {w w' : World} {S : Nat → Prop} {hv : Nat → Value} {F : Nat → Nat → Prop} {g gl : Look}

def seg (arr : Array Value) (off : Nat) (c : List Value) : Array Value := (arr.toList.take off ++ c ++ arr.toList.drop (off + c.length)).toArray

theorem seg_size {arr : Array Value} {off : Nat} {c : List Value} (h : off + c.length ≤ arr.size) : (seg arr off c).size = arr.size := by
  simp [seg]; omega

theorem seg_in {arr : Array Value} {off j : Nat} {c : List Value} (h : off + c.length ≤ arr.size) (hj : j < c.length) : (seg arr off c)[off + j]? = c[j]? := by
  have hl : (arr.toList.take off).length = off := by simp; omega
  unfold seg
  simp only [List.getElem?_toArray, List.append_assoc]
  rw [List.getElem?_append_right (by omega), List.getElem?_append_left (by omega)]
  congr 1
  omega

theorem seg_out {arr : Array Value} {off k : Nat} {c : List Value} (h : off + c.length ≤ arr.size) (hk : k < off ∨ off + c.length ≤ k) : (seg arr off c)[k]? = arr[k]? := by
  have hl : (arr.toList.take off).length = off := by simp; omega
  unfold seg
  simp only [List.getElem?_toArray, List.append_assoc]
  rcases hk with hk | hk
  · rw [List.getElem?_append_left (by omega), List.getElem?_take_of_lt hk]
    simp
  · rw [List.getElem?_append_right (by omega), List.getElem?_append_right (by omega), List.getElem?_drop]
    have : off + c.length + (k - (arr.toList.take off).length - c.length) = k := by omega
    rw [this]
    simp

theorem rd_iff {b o : Nat} {arr : Array Value} {T : Nat} {cs : List Value} (h : w.heap[b]? = some (.cells arr T (0, 0))) : rd w b o cs ↔ ∀ j v, cs[j]? = some v → arr[o + j]? = some v := by
  unfold rd
  simp [World.cell?, h]

theorem rd_fits {b o : Nat} {arr : Array Value} {T : Nat} {cs : List Value} (h : w.heap[b]? = some (.cells arr T (0, 0))) (hr : rd w b o cs) (h0 : 0 < cs.length) : o + cs.length ≤ arr.size := by
  rw [rd_iff h] at hr
  have := hr (cs.length - 1) (cs[cs.length - 1]'(by omega)) (by simp [show cs.length - 1 < cs.length by omega])
  have := (Array.getElem?_eq_some_iff.1 this).1
  omega

theorem run_storeVar (hf : Fit P H) {T : Nat} {ag : Bool × Nat} (h : agOf H T = some ag) {b o : Nat} {arr : Array Value} {U : Nat} (hb : w.heap[b]? = some (.cells arr U (0, 0))) {v : Value} {cs : List Value} (hv : v.cells.toList = cs) (hl : cs.length = ag.2) (h1 : ∀ v ∈ cs, v.oneCell' = true) (hs : o + cs.length ≤ arr.size) :
    (storeVar T ⟨b, o, none⟩ v).run P w = .ok () (w.setRow b (seg arr o cs)) := by
  obtain ⟨_, hsz⟩ := run_ag (w := w) hf h
  have hc := run_storeCells_at P b o U cs 0 arr w hb (by simpa using hs) h1
  unfold storeVar
  have : v.cells.size = ag.2 := by rw [← hl, ← hv]; simp
  simp [hsz, this, hv, hc, seg]

theorem store_exec (hf : Fit P H) (o : Oper) (ρ : Operand → Value) (E : Nat) (x y : Operand) (ho : o.op = .store E x y) {ag : Bool × Nat} (hE : agOf H E = some ag) {b off : Nat} (hx : ρ x = .pointer (some ⟨b, off, none⟩)) {arr : Array Value} {U : Nat} (hb : w.heap[b]? = some (.cells arr U (0, 0)))
    {cs : List Value} (hv : (ρ y).cells.toList = cs) (hl : cs.length = ag.2) (h1 : ∀ v ∈ cs, v.oneCell' = true) (hs : off + cs.length ≤ arr.size) : (execOp ρ o).run P w = .ok .skip (w.setRow b (seg arr off cs)) := by
  unfold execOp
  simp [ho, hx, Instr.storeAt, Instr.sureAddr, run_storeVar hf hE hb hv hl h1 hs]

theorem Res_skip {r : Result Next} {w' : World} {Post : Value → World → Prop} (h : r = .ok .skip w') (hp : Post undef w') : Res P r Post := by subst h; exact hp

theorem setRow_size (w : World) (b : Nat) (cs : Array Value) : (w.setRow b cs).heap.size = w.heap.size := by simp [World.setRow]

/-- a variable's place is stored to -/
theorem store_box (hf : Fit P H) (hI : Inv w S hv F g) (o : Oper) (ρ : Operand → Value) (E : Nat) (x y : Operand) (ho : o.op = .store E x y) {ag : Bool × Nat} (hE : agOf H E = some ag) {c : Nat} {p : List Step} {b b' z : SV} (hc : g c = some (.box b))
    (hx : VR w S hv g (.ptr c p) (ρ x)) (hz : VR w S hv g z (ρ y)) (ha : z.ag = some ag) (hb' : SV.set b p z = some b') : Res P ((execOp ρ o).run P w) (Out w S hv F g ⟨.unit, [(c, .box b')]⟩) := by
  obtain ⟨_, hx, _, _⟩ := VR_ptr hx
  obtain ⟨cs, _, hcs, hl, hcv⟩ := VR_cells ha hz
  have hr := hI.rep c _ hc
  simp only [GRep] at hr
  obtain ⟨bl, arr, T, e1, e2, e3, e4⟩ := hr
  obtain ⟨c1, c2, c3, f1, f2, f3, f4⟩ := CRep_set p b b' z _ cs hb' e4 hcs
  rw [e1, adr_ptr] at hx
  have hsz : arr.size = c1.length + (c2.length + c3.length) := by
    have := congrArg List.length f1
    simpa using this
  have hfit : 0 + pathOff p + cs.length ≤ arr.size := by omega
  have hrun := store_exec (w := w) hf o ρ E x y ho hE hx e2 hcv hl (CRep_one _ _ hcs) hfit
  have hseg : (seg arr (0 + pathOff p) cs).toList = c1 ++ (cs ++ c3) := by
    unfold seg
    have hd : List.drop (pathOff p + cs.length) arr.toList = c3 := by
      rw [f1, ← f2, ← f3, ← List.append_assoc, ← List.length_append, List.drop_left]
    have ht : List.take (pathOff p) arr.toList = c1 := by rw [f1, ← f2, List.take_left]
    simp [Nat.zero_add, ht, hd]
  refine Res_skip hrun ?_
  have hs := re_step (w' := w.setRow bl (seg arr (0 + pathOff p) cs)) (r := .box b') (v := hv c) (gs := []) (fs := []) (Fd := F c) (Q := fun _ => False) (gl := g) (d := c) hI (fun _ _ h => h) (fun _ => rfl) (fun n _ h => by simp [Rg.len] at h) (.inl rfl) (by simp) (by simp) (by simp) (by simp) (by simp)
    (by rw [setRow_size]; exact Nat.le_refl _) (fun b hb hn => setRow_other _ _ _ _ (fun h => hn ⟨c, by simp, h ▸ e3⟩)) (fun b hb => ⟨.inl ⟨c, by simp, hb⟩, by rw [setRow_size]; exact hI.old c b hb⟩) (fun _ h => h.elim) (by
      intro hE
      simp only [GRep, if_true]
      refine ⟨bl, seg arr (0 + pathOff p) cs, T, e1, setRow_heap w bl arr _ T _ e2, e3, ?_⟩
      rw [hseg]
      exact CRep_mono hE _ _ _ f4)
  exact Out.mk (by simpa [frozen] using updReg_re g g c (.box b') [] []) hs rfl
end
end Go.Rf

namespace Go.Rf

section
variable {P : Program} {H : Hints} {w w' : World} {S : Nat → Prop} {hv : Nat → Value} {F : Nat → Nat → Prop} {g gl : Look}

def PutD (w : World) (t : Ty) (x : Den t) (q : List Step) (G : Nat → Prop) (cs : List Value) : Prop :=
  ∀ (d : D) (G2 : Nat → Prop) (c : List Value) (y : Den t), Den.set t x q d = some y → DRep w d.1 d.2 G2 c → (∀ b, G b → G2 b → False) →
    ∃ c1 c2 c3, cs = c1 ++ (c2 ++ c3) ∧ c1.length = pathOff q ∧ c2.length = c.length ∧ DRep w t y (fun b => G b ∨ G2 b) (c1 ++ (c ++ c3))

def PutR (w : World) (S : Nat → Prop) (t : Ty) (x : Den t) (q : List Step) (cs : List Value) : Prop :=
  ∀ (d : D) (c : List Value) (y : Den t), Den.set t x q d = some y → Rep w S false d.1 d.2 c →
    ∃ c1 c2 c3, cs = c1 ++ (c2 ++ c3) ∧ c1.length = pathOff q ∧ c2.length = c.length ∧ Rep w S false t y (c1 ++ (c ++ c3))

/-- a row, and one of its elements of which the place q is stored to -/
def RowAt (w : World) (S : Nat → Prop) (v : Value) (Fc : Nat → Prop) (dp : Bool) (t : Ty) (n : Bool) (xs : List (Den t)) (i : Nat) (q : List Step) (b o : Nat) : Prop :=
  n = false ∧ ∃ (cap : Nat) (arr : Array Value) (T : Nat) (G : Nat → Nat → Prop), v = .slice (some ⟨b, o, none⟩) xs.length cap ∧ xs.length ≤ cap ∧ xs.length ≤ big ∧
    w.heap[b]? = some (.cells arr T (0, 0)) ∧ o + cap * size t ≤ arr.size ∧ Fc b ∧ (∀ i b', G i b' → Fc b' ∧ b' ≠ b) ∧ (∀ i j b', G i b' → G j b' → i = j) ∧
    (∀ j e, j ≠ i → xs[j]? = some e → ∃ c, c.length = size t ∧ rd w b (o + j * size t) c ∧ ERep w S dp t e (G j) c) ∧
    ∃ c, c.length = size t ∧ rd w b (o + i * size t) c ∧ (dp = true → PutD w t (xs.getD i (dflt t)) q (G i) c) ∧ ∀ S' : Nat → Prop, (∀ b, S b → S' b) → (dp = true → ∀ b, G i b → S' b) → PutR w S' t (xs.getD i (dflt t)) q c

theorem row_at {v : Value} {Fc : Nat → Prop} {dp n : Bool} {t : Ty} {xs : List (Den t)} {i : Nat} (h : RowB w (ERep w S dp t) (size t) n xs Fc v) (hi : i < xs.length) (q : List Step) : ∃ b o, RowAt w S v Fc dp t n xs i q b o := by
  rcases h with ⟨_, h2, _⟩ | ⟨h0, b, o, cap, arr, T, G, h1, h2, h3, h4, h5, h6, h7, h8, h9⟩
  · simp [h2] at hi
  have hx : xs[i]? = some xs[i] := by simp [hi]
  obtain ⟨c, k1, k2, k3⟩ := h9 i _ hx
  refine ⟨b, o, h0, cap, arr, T, G, h1, h2, h3, h4, h5, h6, h7, h8, fun j e _ he => h9 j e he, c, k1, k2, ?_, ?_⟩
  · rintro rfl d G2 c' y hy hd hdj
    rw [getD_of_get hx] at hy
    exact DRep_set q t _ y (G i) G2 c d c' hy k3 hd hdj
  · intro S' hS hG d c' y hy hd
    rw [getD_of_get hx] at hy
    refine Rep_set q t _ y c d c' hy ?_ hd
    cases dp with
    | true => exact DRep_Rep _ _ _ _ (hG rfl) k3
    | false => exact Rep_mono (fun _ _ _ _ h => h) hS _ _ _ _ k3

theorem Lent_setR {S' : Nat → Prop} : ∀ (q : List Step) (t : Ty) (x e : Den t) (F : Nat → Prop) (cs : List Value) (v : Value) (d : D) (c : List Value), Lent w t x q F cs v → Rep w S' false d.1 d.2 c → Den.set t x q d = some e → (∀ b, F b → S' b) →
    ∃ c1 c3, cs = c1 ++ (v :: c3) ∧ c1.length = pathOff q ∧ c.length = 1 ∧ Rep w S' false t e (c1 ++ (c ++ c3)) := by
  intro q
  induction q with
  | nil =>
    intro t x e F cs v d c h hd hs hS
    cases t <;> simp only [Lent] at h
    rename_i t
    simp only [Den.set] at hs
    have := D_to hs
    subst this
    subst h
    exact ⟨[], [], rfl, rfl, Rep_length _ _ _ hd, by simpa using hd⟩
  | cons s q ih =>
    intro t x e F cs v d c h hd hs hS
    cases t with
    | one a =>
      cases s <;> simp only [Lent] at h
      simp only [Den.set] at hs
      obtain ⟨c1, c3, h1, h2, h3, h4⟩ := ih a x e F cs v d c h hd hs hS
      exact ⟨c1, c3, h1, by simpa [pathOff, Step.off] using h2, h3, by simpa only [Rep] using h4⟩
    | pair a b =>
      cases s with
      | fst =>
        simp only [Lent] at h
        obtain ⟨k, k', F1, F2, rfl, g1, g2, g3, g4, g5⟩ := h
        simp only [Den.set, Option.map_eq_some_iff] at hs
        obtain ⟨y, hy, rfl⟩ := hs
        obtain ⟨c1, c3, rfl, h2, h3, h4⟩ := ih a x.1 y F1 k v d c g4 hd hy (fun b h => hS b (g1 b h))
        refine ⟨c1, c3 ++ k', by simp, by simpa [pathOff, Step.off] using h2, h3, ?_⟩
        simp only [Rep]
        exact ⟨c1 ++ (c ++ c3), k', by simp, h4, DRep_Rep _ _ _ _ (fun b h => hS b (g2 b h)) g5⟩
      | snd n =>
        simp only [Lent] at h
        obtain ⟨hn, k, k', F1, F2, rfl, g1, g2, g3, g4, g5⟩ := h
        simp only [Den.set, hn, if_true, Option.map_eq_some_iff] at hs
        obtain ⟨y, hy, rfl⟩ := hs
        obtain ⟨c1, c3, rfl, h2, h3, h4⟩ := ih b x.2 y F2 k' v d c g5 hd hy (fun b h => hS b (g2 b h))
        refine ⟨k ++ c1, c3, by simp, by simp [pathOff, Step.off, h2, DRep_length _ _ _ _ g4, hn], h3, ?_⟩
        simp only [Rep]
        exact ⟨k, c1 ++ (c ++ c3), by simp, DRep_Rep _ _ _ _ (fun b h => hS b (g1 b h)) g4, h4⟩
      | one => simp only [Lent] at h
      | el i sz => simp only [Lent] at h
    | int k => simp only [Lent] at h
    | bool => simp only [Lent] at h
    | nil => simp only [Lent] at h
    | sl t => simp only [Lent] at h
    | fn f c => simp only [Lent] at h
    | hsl t => simp only [Lent] at h

theorem lent_at {c i k : Nat} {n : Bool} {t : Ty} {xs : List (Den t)} {q : List Step} (h : GRep w S hv g F c (.rowl t n xs i q k)) : i < xs.length ∧ ∃ b o, RowAt w S (hv c) (F c) true t n xs i q b o := by
  simp only [GRep] at h
  obtain ⟨_, hi, h⟩ := h
  refine ⟨hi, ?_⟩
  rcases h with ⟨_, h2, _⟩ | ⟨h0, b, o, cap, arr, T, G, h1, h2, h3, h4, h5, h6, h7, h8, h9⟩
  · have := congrArg List.length h2
    simp at this
    simp [this] at hi
  simp only [List.length_map, List.length_zipIdx] at h1 h2 h3
  have hz : ∀ (j : Nat) (e : Den t), xs[j]? = some e → (xs.zipIdx.map fun e => (e.2, e.1))[j]? = some (j, e) := fun j e he => by simp [List.getElem?_map, List.getElem?_zipIdx, he]
  have hx : xs[i]? = some xs[i] := by simp [hi]
  obtain ⟨cs, k1, k2, k3⟩ := h9 i _ (hz _ _ hx)
  rcases k3 with ⟨k3, _⟩ | ⟨_, k3⟩
  · exact absurd rfl k3
  refine ⟨b, o, h0, cap, arr, T, G, h1, h2, h3, h4, h5, h6, h7, h8, ?_, cs, k1, k2, ?_, ?_⟩
  · intro j e hj he
    obtain ⟨cs, k1, k2, k3⟩ := h9 j _ (hz _ _ he)
    rcases k3 with ⟨_, k3⟩ | ⟨k3, _⟩
    · exact ⟨cs, k1, k2, k3⟩
    · exact absurd k3 hj
  · intro _ d G2 c' y hy hd hdj
    rw [getD_of_get hx] at hy
    obtain ⟨c1, c3, e1, e2, e3, e4⟩ := Lent_set q t _ y (G i) G2 cs _ d c' k3 hd hy hdj
    exact ⟨c1, [hv k], c3, by rw [e1]; rfl, e2, by rw [e3]; rfl, e4⟩
  · intro S' hS hG d c' y hy hd
    rw [getD_of_get hx] at hy
    obtain ⟨c1, c3, e1, e2, e3, e4⟩ := Lent_setR q t _ y (G i) cs _ d c' k3 hd hy (hG rfl)
    exact ⟨c1, [hv k], c3, by rw [e1]; rfl, e2, by rw [e3]; rfl, e4⟩

/-- where the cells go, and what the row is then -/
theorem put_at {v : Value} {Fc : Nat → Prop} {dp n : Bool} {t : Ty} {xs : List (Den t)} {i : Nat} {q : List Step} {b o : Nat} (h : RowAt w S v Fc dp t n xs i q b o) (hi : i < xs.length) {d : D} {c : List Value} {y : Den t} (hy : Den.set t (xs.getD i (dflt t)) q d = some y) :
    ∃ (arr : Array Value) (T : Nat) (cap : Nat), v = .slice (some ⟨b, o, none⟩) xs.length cap ∧ w.heap[b]? = some (.cells arr T (0, 0)) ∧ Fc b ∧
      (c.length ≠ 0 → (∃ S' : Nat → Prop, Rep w S' false d.1 d.2 c) → o + i * size t + pathOff q + c.length ≤ arr.size ∧
      ∀ w' : World, w'.heap[b]? = some (.cells (seg arr (o + i * size t + pathOff q) c) T (0, 0)) → 
        (∀ G2 : Nat → Prop, dp = true → DRep w d.1 d.2 G2 c → (∀ b, Fc b → G2 b → False) → (∀ b', Fc b' → b' ≠ b → w'.heap[b']? = w.heap[b']?) → (∀ b', G2 b' → w'.heap[b']? = w.heap[b']?) → RowB w' (DRep w' t) (size t) n (xs.set i y) (fun b => Fc b ∨ G2 b) v) ∧
        (∀ S' : Nat → Prop, KeepsC S' w w' → (∀ b, S b → S' b) → (dp = true → ∀ b', Fc b' → b' ≠ b → S' b') → Rep w S' false d.1 d.2 c → ∀ F' : Nat → Prop, F' b → RowB w' (fun e _ c => Rep w' S' false t e c) (size t) n (xs.set i y) F' v)) := by
  obtain ⟨h0, cap, arr, T, G, h1, h2, h3, h4, h5, h6, h7, h8, h9, c0, k1, k2, k3, k4⟩ := h
  refine ⟨arr, T, cap, h1, h4, h6, fun hc ⟨S0, hS0⟩ => ?_⟩
  have hle : (i + 1) * size t ≤ cap * size t := Nat.mul_le_mul_right _ (by omega)
  rw [Nat.add_mul, Nat.one_mul] at hle
  have hseg : ∀ c1 c2 c3 : List Value, c0 = c1 ++ (c2 ++ c3) → c1.length = pathOff q → c2.length = c.length → o + i * size t + pathOff q + c.length ≤ o + i * size t + size t := by
    intro c1 c2 c3 e1 e2 e3
    have := congrArg List.length e1
    simp only [List.length_append] at this
    omega
  -- that it fits
  have hfit0 : o + i * size t + pathOff q + c.length ≤ o + i * size t + size t := by
    obtain ⟨c1, c2, c3, e1, e2, e3, _⟩ := k4 (fun _ => True) (fun _ _ => trivial) (fun _ _ _ => trivial) d c y hy (Rep_mono (fun _ _ _ _ h => h) (fun _ _ => trivial) _ _ _ _ hS0)
    exact hseg c1 c2 c3 e1 e2 e3
  have hfit : o + i * size t + pathOff q + c.length ≤ arr.size := by omega
  refine ⟨hfit, fun w' hw' => ?_⟩
  have hother : ∀ j e, j ≠ i → xs[j]? = some e → ∀ cs, cs.length = size t → rd w b (o + j * size t) cs → rd w' b (o + j * size t) cs := by
    intro j e hj he cs hl hr
    rw [rd_iff hw']
    rw [rd_iff h4] at hr
    intro z u hz
    have hzl := (List.getElem?_eq_some_iff.1 hz).1
    rw [seg_out hfit]
    · exact hr z u hz
    · rcases Nat.lt_or_gt_of_ne hj with hj | hj
      · left
        have : (j + 1) * size t ≤ i * size t := Nat.mul_le_mul_right _ hj
        rw [Nat.add_mul, Nat.one_mul] at this
        omega
      · right
        have : (i + 1) * size t ≤ j * size t := Nat.mul_le_mul_right _ hj
        rw [Nat.add_mul, Nat.one_mul] at this
        omega
  have hself : ∀ c1 c2 c3 : List Value, c0 = c1 ++ (c2 ++ c3) → c1.length = pathOff q → c2.length = c.length → (c1 ++ (c ++ c3)).length = size t ∧ rd w' b (o + i * size t) (c1 ++ (c ++ c3)) := by
    intro c1 c2 c3 e1 e2 e3
    have hl := congrArg List.length e1
    simp only [List.length_append] at hl
    refine ⟨by simp only [List.length_append]; omega, ?_⟩
    rw [rd_iff hw']
    rw [rd_iff h4, e1] at k2
    intro z u hz
    by_cases hz1 : z < c1.length
    · rw [List.getElem?_append_left hz1] at hz
      rw [seg_out hfit (.inl (by omega))]
      exact k2 z u (by rw [List.getElem?_append_left hz1]; exact hz)
    · by_cases hz2 : z < c1.length + c.length
      · rw [List.getElem?_append_right (by omega), List.getElem?_append_left (by omega)] at hz
        have := seg_in hfit (j := z - c1.length) (by omega)
        rw [hz] at this
        rw [← this]
        congr 1
        omega
      · rw [List.getElem?_append_right (by omega), List.getElem?_append_right (by omega)] at hz
        rw [seg_out hfit (.inr (by omega))]
        refine k2 z u ?_
        rw [List.getElem?_append_right (by omega), List.getElem?_append_right (by omega), e3]
        exact hz
  have hsz : (seg arr (o + i * size t + pathOff q) c).size = arr.size := seg_size hfit
  constructor
  · intro G2 hdp hd hdj hfr hfr2
    have hG2 : ∀ j b', G j b' → G2 b' → False := fun j b' h h' => hdj b' (h7 j b' h).1 h'
    have hb2 : ∀ b', G2 b' → b' ≠ b := fun b' h he => hdj b (h6) (he ▸ h)
    refine .inr ⟨h0, b, o, cap, _, T, fun j b' => G j b' ∨ (j = i ∧ G2 b'), by simpa using h1, by simpa using h2, by simpa using h3, hw', by rw [hsz]; exact h5, .inl h6, ?_, ?_, ?_⟩
    · rintro j b' (hb | ⟨_, hb⟩)
      · exact ⟨.inl (h7 j b' hb).1, (h7 j b' hb).2⟩
      · exact ⟨.inr hb, hb2 b' hb⟩
    · rintro j j' b' (hb | ⟨e1, hb⟩) (hb' | ⟨e2, hb'⟩)
      · exact h8 j j' b' hb hb'
      · exact (hG2 j b' hb hb').elim
      · exact (hG2 j' b' hb' hb).elim
      · rw [e1, e2]
    · intro j e he
      rw [List.getElem?_set] at he
      by_cases hj : i = j
      · subst hj
        simp only [if_true, hi] at he
        have he : y = e := by simpa using he
        subst he
        obtain ⟨c1, c2, c3, e1, e2, e3, e4⟩ := k3 hdp d G2 c y hy hd (fun b' h h' => hG2 i b' h h')
        obtain ⟨m1, m2⟩ := hself c1 c2 c3 e1 e2 e3
        refine ⟨_, m1, m2, DRep_mono _ _ _ _ _ ?_ ?_ e4⟩
        · rintro b' (hb | hb)
          · exact .inl hb
          · exact .inr ⟨rfl, hb⟩
        · rintro b' (hb | hb)
          · exact hfr b' (h7 i b' hb).1 (h7 i b' hb).2
          · exact hfr2 b' hb
      · simp only [hj, if_false] at he
        obtain ⟨cs, m1, m2, m3⟩ := h9 j e (fun h => hj h.symm) he
        subst hdp
        exact ⟨cs, m1, hother j e (fun h => hj h.symm) he cs m1 m2, DRep_mono _ _ _ _ _ (fun _ h => .inl h) (fun b' hb => hfr b' (h7 j b' hb).1 (h7 j b' hb).2) m3⟩
  · intro S' hk hS hF hd F' hF'
    refine .inr ⟨h0, b, o, cap, _, T, fun _ _ => False, by simpa using h1, by simpa using h2, by simpa using h3, hw', by rw [hsz]; exact h5, hF', fun _ _ h => h.elim, fun _ _ _ h => h.elim, ?_⟩
    intro j e he
    rw [List.getElem?_set] at he
    by_cases hj : i = j
    · subst hj
      simp only [if_true, hi] at he
      have he : y = e := by simpa using he
      subst he
      obtain ⟨c1, c2, c3, e1, e2, e3, e4⟩ := k4 S' hS (fun hdp b' hb => hF hdp b' (h7 i b' hb).1 (h7 i b' hb).2) d c y hy hd
      obtain ⟨m1, m2⟩ := hself c1 c2 c3 e1 e2 e3
      exact ⟨_, m1, m2, Rep_mono hk (fun _ h => h) _ _ _ _ e4⟩
    · simp only [hj, if_false] at he
      obtain ⟨cs, m1, m2, m3⟩ := h9 j e (fun h => hj h.symm) he
      refine ⟨cs, m1, hother j e (fun h => hj h.symm) he cs m1 m2, ?_⟩
      cases dp with
      | true => exact Rep_mono hk (fun _ h => h) _ _ _ _ (DRep_Rep _ _ _ _ (fun b' hb => hF rfl b' (h7 j b' hb).1 (h7 j b' hb).2) m3)
      | false => exact Rep_mono hk (fun _ h => h) _ _ _ _ (Rep_mono (fun _ _ _ _ h => h) hS _ _ _ _ m3)
end
end Go.Rf

namespace Go.Rf

section
variable {P : Program} {H : Hints} {w w' : World} {S : Nat → Prop} {hv : Nat → Value} {F : Nat → Nat → Prop} {g gl : Look}

theorem size_pos_of_ag (hf : Fit P H) {E : Nat} {ag : Bool × Nat} (h : agOf H E = some ag) : 0 < ag.2 := by
  unfold agOf at h
  cases ht : H.ty E with
  | some t =>
    simp only [ht, Option.some.injEq] at h
    subst h
    exact (hf.ty E t ht).pos
  | none =>
    simp only [ht] at h
    cases hc : H.cell E <;> simp [hc] at h
    subst h
    simp

/-- a place of a row's element is stored to: what is taken in -/
theorem store_deep (hf : Fit P H) (hI : Inv w S hv F g) (hl : ∀ c r, gl c = some r → g c = some r) (o : Oper) (ρ : Operand → Value) (E : Nat) (x y : Operand) (ho : o.op = .store E x y) {ag : Bool × Nat} (hE : agOf H E = some ag)
    {c i : Nat} {t : Ty} {n : Bool} {xs : List (Den t)} {q : List Step} {r0 : Rg} {b off : Nat} (hc : g c = some r0) (hlen : r0.len = some xs.length) (hat : RowAt w S (hv c) (F c) true t n xs i q b off) (hi : i < xs.length)
    (hx : ρ x = adr (hv c) (pathOff (.el i (size t) :: q))) {z : SV} (hz : VR w S hv g z (ρ y)) (ha : z.ag = some ag) {d : D} {l : List Nat} (hd : toDeep gl z = some (d, l)) (hnd : (c :: l).Nodup) {e : Den t} (hs : Den.set t (xs.getD i (dflt t)) q d = some e) :
    Res P ((execOp ρ o).run P w) (Out w S hv F g ⟨.unit, (c, .row t true n (xs.set i e)) :: l.map fun k => (k, Rg.gone)⟩) := by
  obtain ⟨cs, _, hcs, hcl, hcv⟩ := VR_cells ha hz
  rw [List.nodup_cons] at hnd
  have hD := toDeep_sound hI hl z d l cs hd hnd.2 hcs
  obtain ⟨arr, T, cap, h1, h2, h3, h4⟩ := put_at hat hi (c := cs) hs
  have hpos := size_pos_of_ag hf hE
  obtain ⟨h5, h6⟩ := h4 (by omega) ⟨fun _ => True, DRep_Rep _ _ _ _ (fun _ _ => trivial) hD⟩
  have hadr : ρ x = .pointer (some ⟨b, off + i * size t + pathOff q, none⟩) := by rw [hx, h1, adr_slice]; simp [pathOff, Step.off, Nat.add_assoc]
  have hrun := store_exec (w := w) hf o ρ E x y ho hE hadr h2 hcv hcl (CRep_one _ _ hcs) h5
  refine Res_skip hrun ?_
  obtain ⟨h7, _⟩ := h6 (w.setRow b (seg arr (off + i * size t + pathOff q) cs)) (setRow_heap w b arr _ T _ h2)
  have hdj : ∀ b', F c b' → FL F l b' → False := fun b' h ⟨k, hk, hkb⟩ => hnd.1 (hI.disj c k b' h hkb ▸ hk)
  have hrow := h7 (FL F l) rfl hD hdj (fun b' _ hne => setRow_other _ _ _ _ hne) (fun b' h => setRow_other _ _ _ _ (fun he => hdj b h3 (he ▸ h)))
  have hstep := re_step (w' := w.setRow b (seg arr (off + i * size t + pathOff q) cs)) (r := .row t true n (xs.set i e)) (v := hv c) (gs := l) (fs := []) (Fd := fun b' => F c b' ∨ FL F l b') (Q := fun _ => False) (gl := gl) (d := c) hI hl (fun _ => rfl)
    (fun m _ h => by simp [Rg.len] at h; simp [glen, hc, hlen, h]) (.inl rfl) hnd.1 (by simp) (by simp) (fun k hk => by obtain ⟨r, hr, _⟩ := toDeep_rows hl _ _ _ hd k hk; rw [hr]; simp) (by simp)
    (by rw [setRow_size]; exact Nat.le_refl _) (fun b' hb hn => setRow_other _ _ _ _ (fun h => hn ⟨c, by simp, h ▸ h3⟩)) (fun b' hb => ⟨.inl (by
      rcases hb with hb | ⟨k, hk, hkb⟩
      · exact ⟨c, by simp, hb⟩
      · exact ⟨k, by simp [hk], hkb⟩), by
      rw [setRow_size]
      rcases hb with hb | ⟨k, hk, hkb⟩
      · exact hI.old c b' hb
      · exact hI.old k b' hkb⟩) (fun _ h => h.elim) (by
      intro hE
      simp only [GRep, if_true]
      exact hrow)
  exact Out.mk (by simpa [frozen] using updReg_re g gl c (.row t true n (xs.set i e)) l []) hstep rfl

/-- and what is only seen -/
theorem store_shared (hf : Fit P H) (hI : Inv w S hv F g) (hl : ∀ c r, gl c = some r → g c = some r) (o : Oper) (ρ : Operand → Value) (E : Nat) (x y : Operand) (ho : o.op = .store E x y) {ag : Bool × Nat} (hE : agOf H E = some ag)
    {c i : Nat} {t : Ty} {dp n : Bool} {xs : List (Den t)} {q : List Step} {r0 : Rg} {b off : Nat} (hc : g c = some r0) (hlen : r0.len = some xs.length) (hat : RowAt w S (hv c) (F c) dp t n xs i q b off) (hi : i < xs.length)
    (hx : ρ x = adr (hv c) (pathOff (.el i (size t) :: q))) {z : SV} (hz : VR w S hv g z (ρ y)) (ha : z.ag = some ag) {d : D} {l : List Nat} (hd : view gl z = some (d, l)) (hnd : (c :: l).Nodup) {e : Den t} (hs : Den.set t (xs.getD i (dflt t)) q d = some e) :
    Res P ((execOp ρ o).run P w) (Out w S hv F g ⟨.unit, (c, .row t (flat t) n (xs.set i e)) :: frozen gl l⟩) := by
  obtain ⟨cs, _, hcs, hcl, hcv⟩ := VR_cells ha hz
  rw [List.nodup_cons] at hnd
  have hR := view_sound (S' := fun b' => S b' ∨ FL F l b' ∨ (F c b' ∧ b' ≠ b)) hI hl z d l cs hd (fun _ h => .inl h) (fun _ h => .inr (.inl h)) hcs
  obtain ⟨arr, T, cap, h1, h2, h3, h4⟩ := put_at hat hi (c := cs) hs
  have hpos := size_pos_of_ag hf hE
  obtain ⟨h5, h6⟩ := h4 (by omega) ⟨_, hR⟩
  have hadr : ρ x = .pointer (some ⟨b, off + i * size t + pathOff q, none⟩) := by rw [hx, h1, adr_slice]; simp [pathOff, Step.off, Nat.add_assoc]
  have hrun := store_exec (w := w) hf o ρ E x y ho hE hadr h2 hcv hcl (CRep_one _ _ hcs) h5
  refine Res_skip hrun ?_
  obtain ⟨_, h7⟩ := h6 (w.setRow b (seg arr (off + i * size t + pathOff q) cs)) (setRow_heap w b arr _ T _ h2)
  have hne : ∀ b', (S b' ∨ FL F l b' ∨ (F c b' ∧ b' ≠ b)) → b' ≠ b := by
    rintro b' (h | ⟨k, hk, hkb⟩ | ⟨_, h⟩) rfl
    · exact hI.shr c _ h3 h
    · exact hnd.1 (hI.disj c k _ h3 hkb ▸ hk)
    · exact h rfl
  have hrow := h7 (fun b' => S b' ∨ FL F l b' ∨ (F c b' ∧ b' ≠ b)) (fun b' o v hb hc => by rw [cell_heap (setRow_other _ _ _ _ (hne b' hb))]; exact hc) (fun _ h => .inl h) (fun _ b' h h' => .inr (.inr ⟨h, h'⟩)) hR (fun b' => b' = b) rfl
  have hstep := re_step (w' := w.setRow b (seg arr (off + i * size t + pathOff q) cs)) (r := .row t (flat t) n (xs.set i e)) (v := hv c) (gs := []) (fs := l) (Fd := fun b' => b' = b) (Q := fun b' => F c b' ∧ b' ≠ b) (gl := gl) (d := c) hI hl (fun _ => rfl)
    (fun m _ h => by simp [Rg.len] at h; simp [glen, hc, hlen, h]) (.inl rfl) (by simp) hnd.1 (by simp) (by simp) (view_regs _ _ _ hd)
    (by rw [setRow_size]; exact Nat.le_refl _) (fun b' hb hn => setRow_other _ _ _ _ (fun h => hn ⟨c, by simp, h ▸ h3⟩)) (fun b' hb => ⟨.inl ⟨c, by simp, hb ▸ h3⟩, by
      rw [setRow_size, hb]
      exact hI.old c b h3⟩) (fun b' h => ⟨⟨c, by simp, h.1⟩, h.2⟩) (by
      intro hE
      simp only [GRep, if_true]
      refine RowB_mono (fun _ h => h) (fun _ _ => rfl) (fun e G cs _ he => ?_) hrow
      cases hft : flat t with
      | true => exact Rep_flat_D _ _ _ hft he
      | false => exact he)
  exact Out.mk (by simpa using updReg_re g gl c (.row t (flat t) n (xs.set i e)) [] l) hstep rfl

/-- no region put back -/
theorem storeRow_sound (hf : Fit P H) (hI : Inv w S hv F g) (hl : ∀ c r, gl c = some r → g c = some r) (o : Oper) (ρ : Operand → Value) (E : Nat) (x y : Operand) (ho : o.op = .store E x y) {ag : Bool × Nat} (hE : agOf H E = some ag)
    {c i : Nat} {t : Ty} {dp n : Bool} {xs : List (Den t)} {q : List Step} {r0 : Rg} {b off : Nat} (hc : g c = some r0) (hlen : r0.len = some xs.length) (hat : RowAt w S (hv c) (F c) dp t n xs i q b off) (hi : i < xs.length)
    (hx : ρ x = adr (hv c) (pathOff (.el i (size t) :: q))) {z : SV} (hz : VR w S hv g z (ρ y)) (ha : z.ag = some ag) {e : Eff} (he : (storeRow gl c t dp n xs [] i q z).run = some e) :
    Res P ((execOp ρ o).run P w) (Out w S hv F g e) := by
  unfold storeRow at he
  split at he
  · rename_i d l hd
    cases dp with
    | false => simp at hd
    | true =>
      simp only [if_true] at hd
      split at he
      rotate_left
      · simp [M.run] at he
      rename_i hnd
      have hnd := nodupB_spec hnd
      simp only [List.append_nil] at hnd he
      split at he
      rotate_left
      · simp [M.run] at he
      rename_i y' hy
      simp only [M.run, Option.some.injEq] at he
      subst he
      exact store_deep hf hI hl o ρ E x y ho hE hc hlen hat hi hx hz ha hd hnd hy
  · split at he
    rotate_left
    · simp [M.run] at he
    rename_i d l hd
    split at he
    rotate_left
    · simp [M.run] at he
    rename_i hnd
    have hnd := nodupB_spec hnd
    simp only [List.append_nil, List.map_nil] at hnd he
    split at he
    rotate_left
    · simp [M.run] at he
    rename_i y' hy
    simp only [M.run, Option.some.injEq] at he
    subst he
    exact store_shared hf hI hl o ρ E x y ho hE hc hlen hat hi hx hz ha hd hnd hy
end
end Go.Rf

namespace Go.Rf

section
variable {P : Program} {H : Hints} {w w' : World} {S : Nat → Prop} {hv : Nat → Value} {F : Nat → Nat → Prop} {g gl gm : Look}

/-- gm tells what is needed of gl -/
def Tells (gl gm : Look) (l : List Nat) : Prop := ∀ z r, gl z = some r → (z ∈ l ∨ r.owns = false) → gm z = some r

theorem Tells.left {l m : List Nat} (h : Tells gl gm (l ++ m)) : Tells gl gm l := fun z r hr ho => h z r hr (ho.imp (fun h => List.mem_append_left _ h) id)
theorem Tells.right {l m : List Nat} (h : Tells gl gm (l ++ m)) : Tells gl gm m := fun z r hr ho => h z r hr (ho.imp (fun h => List.mem_append_right _ h) id)

theorem view0_tells : ∀ (a : SV) (d : D) (l : List Nat), view0 gl a = some (d, l) → Tells gl gm l → view0 gm a = some (d, l) := by
  intro a
  induction a with
  | v t x => intro d l h _; exact h
  | ref c =>
    intro d l h ht
    simp only [view0] at h ⊢
    split at h <;> try (cases h; done)
    · rename_i hg
      simp only [Option.some.injEq, Prod.mk.injEq] at h
      obtain ⟨rfl, rfl⟩ := h
      rw [ht c _ hg (.inl (by simp))]
    · rename_i hg
      simp only [Option.some.injEq, Prod.mk.injEq] at h
      obtain ⟨rfl, rfl⟩ := h
      rw [ht c _ hg (.inl (by simp))]
    · rename_i hg
      simp only [Option.some.injEq, Prod.mk.injEq] at h
      obtain ⟨rfl, rfl⟩ := h
      rw [ht c _ hg (.inr rfl)]
  | sub c sz lo hi =>
    intro d l h ht
    simp only [view0] at h ⊢
    split at h <;> try (cases h; done)
    · rename_i hg
      split at h <;> try (cases h; done)
      rename_i hsz
      simp only [Option.some.injEq, Prod.mk.injEq] at h
      obtain ⟨rfl, rfl⟩ := h
      rw [ht c _ hg (.inl (by simp))]
      simp [hsz]
    · rename_i hg
      split at h <;> try (cases h; done)
      rename_i hsz
      simp only [Option.some.injEq, Prod.mk.injEq] at h
      obtain ⟨rfl, rfl⟩ := h
      rw [ht c _ hg (.inr rfl)]
      simp [hsz]
  | one a ih =>
    intro d l h ht
    simp only [view0] at h ⊢
    split at h <;> try (cases h; done)
    rename_i h1
    simp only [Option.some.injEq, Prod.mk.injEq] at h
    obtain ⟨rfl, rfl⟩ := h
    rw [ih _ _ h1 ht]
  | pair a b iha ihb =>
    intro d l h ht
    simp only [view0] at h ⊢
    split at h <;> try (cases h; done)
    rename_i h1 h2
    simp only [Option.some.injEq, Prod.mk.injEq] at h
    obtain ⟨rfl, rfl⟩ := h
    rw [iha _ _ h1 ht.left, ihb _ _ h2 ht.right]
  | _ => intro d l h; simp [view0] at h

theorem viewP0_tells (a : SV) (d : D) (l : List Nat) (h : viewP0 gl a = some (d, l)) (ht : Tells gl gm l) : viewP0 gm a = some (d, l) := by
  unfold viewP0 at h
  split at h
  · exact h
  · unfold viewP0
    split at h
    · rename_i c p _ b hg
      split at h <;> try (cases h; done)
      rename_i hb
      split at h <;> try (cases h; done)
      rename_i h1
      simp only [Option.some.injEq, Prod.mk.injEq] at h
      obtain ⟨rfl, rfl⟩ := h
      have := ht c _ hg (.inl (by simp))
      simp only [this, hb]
      rw [view0_tells _ _ _ h1 (fun z r hr ho => ht z r hr (ho.imp (fun h => List.mem_cons_of_mem _ h) id))]
    · rename_i c p _ t y hg
      split at h <;> try (cases h; done)
      rename_i hb
      simp only [Option.some.injEq, Prod.mk.injEq] at h
      obtain ⟨rfl, rfl⟩ := h
      have := ht c _ hg (.inr rfl)
      simp only [this, hb]
    · rename_i c p _ t dp n xs hg
      split at h <;> try (cases h; done)
      split at h <;> try (cases h; done)
      rename_i hsz
      split at h <;> try (cases h; done)
      rename_i hb
      simp only [Option.some.injEq, Prod.mk.injEq] at h
      obtain ⟨rfl, rfl⟩ := h
      have := ht c _ hg (.inl (by simp))
      simp only [this, hsz, hb]
    · cases h
  · cases h

theorem viewC0_tells : ∀ (a : SV) (d : D) (l : List Nat), viewC0 gl a = some (d, l) → Tells gl gm l → viewC0 gm a = some (d, l) := by
  intro a
  induction a with
  | unit => intro d l h _; exact h
  | tup a b iha ihb =>
    intro d l h ht
    simp only [viewC0] at h ⊢
    split at h <;> try (cases h; done)
    rename_i h1 h2
    simp only [Option.some.injEq, Prod.mk.injEq] at h
    obtain ⟨rfl, rfl⟩ := h
    rw [viewP0_tells _ _ _ h1 ht.left, ihb _ _ h2 ht.right]
  | _ => intro d l h; simp [viewC0] at h

theorem view1_tells (a : SV) (d : D) (l : List Nat) (h : view1 gl a = some (d, l)) (ht : Tells gl gm l) : view1 gm a = some (d, l) := by
  unfold view1 at h ⊢
  split at h
  · split at h <;> try (cases h; done)
    rename_i h1
    simp only [Option.some.injEq, Prod.mk.injEq] at h
    obtain ⟨rfl, rfl⟩ := h
    simp only [viewC0_tells _ _ _ h1 ht]
  · exact view0_tells _ _ _ h ht

theorem viewP_tells (a : SV) (d : D) (l : List Nat) (h : viewP gl a = some (d, l)) (ht : Tells gl gm l) : viewP gm a = some (d, l) := by
  unfold viewP at h
  split at h
  · exact h
  · unfold viewP
    split at h
    · rename_i c p _ b hg
      split at h <;> try (cases h; done)
      rename_i hb
      split at h <;> try (cases h; done)
      rename_i h1
      simp only [Option.some.injEq, Prod.mk.injEq] at h
      obtain ⟨rfl, rfl⟩ := h
      have := ht c _ hg (.inl (by simp))
      simp only [this, hb]
      rw [view1_tells _ _ _ h1 (fun z r hr ho => ht z r hr (ho.imp (fun h => List.mem_cons_of_mem _ h) id))]
    · rename_i c p _ t y hg
      split at h <;> try (cases h; done)
      rename_i hb
      simp only [Option.some.injEq, Prod.mk.injEq] at h
      obtain ⟨rfl, rfl⟩ := h
      have := ht c _ hg (.inr rfl)
      simp only [this, hb]
    · rename_i c p _ t dp n xs hg
      split at h <;> try (cases h; done)
      split at h <;> try (cases h; done)
      rename_i hsz
      split at h <;> try (cases h; done)
      rename_i hb
      simp only [Option.some.injEq, Prod.mk.injEq] at h
      obtain ⟨rfl, rfl⟩ := h
      have := ht c _ hg (.inl (by simp))
      simp only [this, hsz, hb]
    · cases h
  · cases h

theorem viewC_tells : ∀ (a : SV) (d : D) (l : List Nat), viewC gl a = some (d, l) → Tells gl gm l → viewC gm a = some (d, l) := by
  intro a
  induction a with
  | unit => intro d l h _; exact h
  | tup a b iha ihb =>
    intro d l h ht
    simp only [viewC] at h ⊢
    split at h <;> try (cases h; done)
    rename_i h1 h2
    simp only [Option.some.injEq, Prod.mk.injEq] at h
    obtain ⟨rfl, rfl⟩ := h
    rw [viewP_tells _ _ _ h1 ht.left, ihb _ _ h2 ht.right]
  | _ => intro d l h; simp [viewC] at h

theorem view_tells (a : SV) (d : D) (l : List Nat) (h : view gl a = some (d, l)) (ht : Tells gl gm l) : view gm a = some (d, l) := by
  unfold view at h ⊢
  split at h
  · split at h <;> try (cases h; done)
    rename_i h1
    simp only [Option.some.injEq, Prod.mk.injEq] at h
    obtain ⟨rfl, rfl⟩ := h
    simp only [viewC_tells _ _ _ h1 ht]
  · exact view0_tells _ _ _ h ht

theorem toDeep_tells : ∀ (a : SV) (d : D) (l : List Nat), toDeep gl a = some (d, l) → (∀ z r, gl z = some r → z ∈ l → gm z = some r) → toDeep gm a = some (d, l) := by
  intro a
  induction a with
  | v t x => intro d l h _; exact h
  | ref c =>
    intro d l h ht
    simp only [toDeep] at h ⊢
    split at h <;> try (cases h; done)
    rename_i hg
    split at h <;> try (cases h; done)
    rename_i hf
    simp only [Option.some.injEq, Prod.mk.injEq] at h
    obtain ⟨rfl, rfl⟩ := h
    rw [ht c _ hg (by simp)]
    simp [hf]
  | one a ih =>
    intro d l h ht
    simp only [toDeep] at h ⊢
    split at h <;> try (cases h; done)
    rename_i h1
    simp only [Option.some.injEq, Prod.mk.injEq] at h
    obtain ⟨rfl, rfl⟩ := h
    rw [ih _ _ h1 ht]
  | pair a b iha ihb =>
    intro d l h ht
    simp only [toDeep] at h ⊢
    split at h <;> try (cases h; done)
    rename_i h1 h2
    simp only [Option.some.injEq, Prod.mk.injEq] at h
    obtain ⟨rfl, rfl⟩ := h
    rw [iha _ _ h1 (fun z r hr hz => ht z r hr (List.mem_append_left _ hz)), ihb _ _ h2 (fun z r hr hz => ht z r hr (List.mem_append_right _ hz))]
  | _ => intro d l h; simp [toDeep] at h

/-- what is frozen is frozen alike where less is known, if no owned thing shows in it -/
theorem frz_tells {c : Nat} {r : Rg} (hsub : ∀ z r, gm z = some r → gl z = some r) (ht : Tells gl gm [c]) (hc : gl c = some r) : frzOf gm c = frzOf gl c := by
  have hm := ht c r hc (.inl (by simp))
  unfold frzOf
  simp only [hm, hc]
  cases r <;> try rfl
  rename_i a
  simp only [freezeRg]
  cases hv0 : view0 gl a with
  | none =>
    cases hv1 : view0 gm a with
    | none => rfl
    | some p =>
      have := view0_tells (gl := gm) (gm := gl) a p.1 p.2 hv1 (fun z r hr _ => hsub z r hr)
      rw [hv0] at this
      cases this
  | some p =>
    obtain ⟨d, l⟩ := p
    cases l with
    | nil =>
      have := view0_tells (gl := gl) (gm := gm) a d [] hv0 (fun z r hr ho => ht z r hr (.inr (ho.resolve_left (by simp))))
      rw [this]
    | cons k ks =>
      cases hv1 : view0 gm a with
      | none => rfl
      | some p =>
        have := view0_tells (gl := gm) (gm := gl) a p.1 p.2 hv1 (fun z r hr _ => hsub z r hr)
        rw [hv0] at this
        simp only [Option.some.injEq] at this
        obtain ⟨d', l'⟩ := p
        simp only [Prod.mk.injEq] at this
        obtain ⟨_, rfl⟩ := this
        rfl

/-- what only is seen of a region of its own (the list may hold more) -/
theorem storeRow_tells {c i : Nat} {t : Ty} {dp n : Bool} {xs : List (Den t)} {q : List Step} {z : SV} {gs : List Nat} {e : Eff} (hsub : ∀ z r, gm z = some r → gl z = some r)
    (ht : ∀ z r, gl z = some r → z ≠ c → z ∉ gs → gm z = some r) (hown : ∀ z r, gl z = some r → r.owns = false → z ≠ c ∧ z ∉ gs) (hnot : gm c = none ∧ ∀ z ∈ gs, gm z = none)
    (he : (storeRow gl c t dp n xs gs i q z).run = some e) :
    ∃ e', (storeRow gm c t dp n xs [] i q z).run = some e' ∧ e'.val = e.val ∧ ∀ g0 g1 : Look, (∀ k ∈ gs, g1 k = some .gone) → (∀ k, k ≠ c → k ∉ gs → g1 k = g0 k) → updReg g1 e'.upd = updReg g0 e.upd := by
  have htells : ∀ l, (c :: (l ++ gs)).Nodup → Tells gl gm l := by
    intro l hnd z r hr ho
    rw [List.nodup_cons, List.nodup_append] at hnd
    rcases ho with ho | ho
    · exact ht z r hr (fun h => hnd.1 (h ▸ List.mem_append_left _ ho)) (fun h => hnd.2.2.2 z ho z h rfl)
    · obtain ⟨h1, h2⟩ := hown z r hr ho
      exact ht z r hr h1 h2
  have hlnd : ∀ l, (c :: (l ++ gs)).Nodup → nodupB (c :: (l ++ [])) = true := by
    intro l hnd
    have : (c :: l).Nodup := by
      rw [List.nodup_cons, List.nodup_append] at hnd
      rw [List.nodup_cons]
      exact ⟨fun h => hnd.1 (List.mem_append_left _ h), hnd.2.1⟩
    rw [List.append_nil]
    have key : ∀ l : List Nat, l.Nodup → nodupB l = true := by
      intro l
      induction l with
      | nil => intro _; rfl
      | cons a l ih =>
        intro h
        rw [List.nodup_cons] at h
        simp [nodupB, ih h.2, h.1]
    exact key _ this
  unfold storeRow at he ⊢
  split at he
  · rename_i d l hd
    cases dp with
    | false => simp at hd
    | true =>
      simp only [if_true] at hd
      split at he
      rotate_left
      · simp [M.run] at he
      rename_i hnd
      have hnd := nodupB_spec hnd
      dsimp only at he
      split at he
      rotate_left
      · simp [M.run] at he
      rename_i y' hy
      simp only [M.run, Option.some.injEq] at he
      subst he
      have htl := htells l hnd
      have hd' := toDeep_tells (gm := gm) z d l hd (fun z r hr hz => htl z r hr (.inl hz))
      simp only [if_true, hd', hlnd l hnd, hy]
      refine ⟨_, rfl, rfl, fun g0 g1 h0 h1 => ?_⟩
      funext k
      simp only [updReg_cons, List.append_nil, updReg_gone, List.mem_append]
      by_cases hk : k = c
      · simp [hk]
      · by_cases hkl : k ∈ l
        · simp [hk, hkl]
        · by_cases hkg : k ∈ gs
          · simp [hk, hkl, hkg, h0 k hkg]
          · simp [hk, hkl, hkg, h1 k hk hkg]
  · rename_i hnone
    split at he
    rotate_left
    · simp [M.run] at he
    rename_i d l hd
    split at he
    rotate_left
    · simp [M.run] at he
    rename_i hnd
    have hnd := nodupB_spec hnd
    dsimp only at he
    split at he
    rotate_left
    · simp [M.run] at he
    rename_i y' hy
    simp only [M.run, Option.some.injEq] at he
    subst he
    have htl := htells l hnd
    have hd' := view_tells (gm := gm) z d l hd htl
    have hnone' : (if dp = true then toDeep gm z else none) = none := by
      cases dp with
      | false => rfl
      | true =>
        simp only [if_true] at hnone ⊢
        cases hm : toDeep gm z with
        | none => rfl
        | some p => exact absurd (toDeep_tells (gl := gm) (gm := gl) z p.1 p.2 hm (fun z r hr _ => hsub z r hr)) (by rw [hnone]; simp)
    simp only [hnone', hd', hlnd l hnd, hy]
    refine ⟨_, rfl, rfl, fun g0 g1 h0 h1 => ?_⟩
    have hfrz : frozen gm l = frozen gl l := by
      unfold frozen
      refine List.map_congr_left fun k hk => ?_
      obtain ⟨r, hr⟩ := Option.ne_none_iff_exists'.1 (view_regs _ _ _ hd k hk)
      rw [frz_tells hsub (fun z r hr ho => htl z r hr (ho.imp (fun h => by simp at h; exact h ▸ hk) id)) hr]
    funext k
    rw [hfrz]
    simp only [updReg_cons, updReg_append, updReg_frozen, updReg_gone, List.not_mem_nil, if_false]
    by_cases hk : k = c
    · simp [hk]
    · by_cases hkl : k ∈ l
      · simp [hk, hkl]
      · by_cases hkg : k ∈ gs
        · simp [hk, hkl, hkg, h0 k hkg]
        · simp [hk, hkl, hkg, h1 k hk hkg]

theorem store_sound (hf : Fit P H) (hI : Inv w S hv F g) (hl : ∀ c r, gl c = some r → g c = some r) (o : Oper) (ρ : Operand → Value) (E : Nat) (x y : Operand) (ho : o.op = .store E x y) {ag : Bool × Nat} (hE : agOf H E = some ag)
    {a z : SV} (hx : VR w S hv g a (ρ x)) (hz : VR w S hv g z (ρ y)) {e : Eff} (he : (storeE gl ag a z).run = some e) : Res P ((execOp ρ o).run P w) (Out w S hv F g e) := by
  unfold storeE at he
  split at he
  · simp [M.run] at he
  rename_i ha
  have ha : z.ag = some ag := of_decide_eq_true ha
  split at he
  rotate_left
  · simp [M.run] at he
  rename_i c p
  have hx0 := hx
  replace hx := VR_ptr hx
  obtain ⟨hg, hx, hbs, hin⟩ := hx
  split at he
  · -- a variable
    rename_i b hc
    split at he
    rotate_left
    · simp [M.run] at he
    rename_i b' hb
    simp only [M.run, Option.some.injEq] at he
    subst he
    exact store_box hf hI o ρ E x y ho hE (hl _ _ hc) hx0 hz ha hb
  · -- a row
    rename_i t dp n xs hc
    split at he
    rotate_left
    · simp [M.run] at he
    rename_i i sz q
    split at he
    rotate_left
    · simp [M.run] at he
    rename_i hsz
    have hsz : sz = size t := by simpa using hsz
    subst hsz
    have hgc := hl _ _ hc
    have hi : i < xs.length := ptr_in hgc rfl hin
    have hr := hI.rep c _ hgc
    simp only [GRep] at hr
    obtain ⟨b, off, hat⟩ := row_at hr hi q
    exact storeRow_sound hf hI hl o ρ E x y ho hE hgc rfl hat hi hx hz ha he
  · -- a row of which a place is lent
    rename_i t n xs j r k hc
    split at he
    rotate_left
    · simp [M.run] at he
    rename_i i sz q
    split at he
    rotate_left
    · simp [M.run] at he
    rename_i hsz
    have hsz : sz = size t := by simpa using hsz
    subst hsz
    have hgc := hl _ _ hc
    split at he
    · -- put back first
      rename_i hk
      split at he
      rotate_left
      · simp [M.run] at he
      rename_i t' dp' n' xs' gs hset
      rcases settled_inv hset with ⟨h1, h2⟩ | ⟨t1, n1, xs1, i1, q1, d1, dp1, m1, u1, ys1, y1, h1, h2, h3, h4, h5, h6⟩
      · cases h2
      cases h1
      cases h5
      subst h6
      obtain ⟨S1, hv1, F1, hst⟩ := settle_step hI hl hgc hset (by simp)
      have hgd := hl _ _ h2
      have hck : c ≠ k := by rintro rfl; rw [hgc] at hgd; cases hgd
      have hx1 := hst.ext
      have hz1 := VR_mono hx1 z _ hz
      have hin1 := PtrIn_mono hx1 hg hin
      have hc1 : updReg g ((c, .row t true n (xs.set j y1)) :: [k].map fun e => (e, Rg.gone)) c = some (.row t true n (xs.set j y1)) := by rw [updReg_cons]; simp
      have hi : i < (xs.set j y1).length := ptr_in hc1 rfl hin1
      have hr := hst.inv.rep c _ hc1
      simp only [GRep] at hr
      obtain ⟨b, off, hat⟩ := row_at hr hi q
      obtain ⟨e', h7, h8, h9⟩ := storeRow_tells (gm := fun z => if z = c ∨ z ∈ [k] then none else gl z) (gl := gl) (gs := [k]) (fun z r h => by
          split at h
          · cases h
          · exact h) (fun z r h h' h'' => by
          simp at h''
          simp [h', h'', h]) (fun z r h h' => by
          constructor
          · rintro rfl; rw [hc] at h; cases h; cases h'
          · intro hm; simp at hm; subst hm; rw [h2] at h; cases h; cases h') ⟨by simp, by simp⟩ he
      have hgm : ∀ z r, (if z = c ∨ z ∈ [k] then none else gl z) = some r → updReg g ((c, .row t true n (xs.set j y1)) :: [k].map fun e => (e, Rg.gone)) z = some r := by
        intro z r h
        split at h
        · cases h
        · rename_i hn
          simp only [not_or] at hn
          rw [updReg_cons, if_neg hn.1, updReg_gone, if_neg hn.2]
          exact hl _ _ h
      have hxv : hv1 c = hv c := hx1.hv c hg
      have ho1 := storeRow_sound hf hst.inv hgm o ρ E x y ho hE hc1 rfl hat hi (by rw [hx, hxv]) hz1 ha h7
      refine Res.mono ho1 fun v w' h => Out.after hst (h9 _ _ ?_ ?_) h8 h
      · intro z hz
        simp at hz
        subst hz
        rw [updReg_cons, if_neg (Ne.symm hck), updReg_gone]
        simp
      · intro z h1 h2
        rw [updReg_cons, if_neg h1, updReg_gone, if_neg h2]
    · -- the lent place itself
      split at he
      rotate_left
      · simp [M.run] at he
      rename_i hq
      have hq : q = r := of_decide_eq_true hq
      subst hq
      simp only [M.run] at he
      cases hji : j == i with
      | false => simp [hji, M.run] at he
      | true =>
        simp only [hji, cond_true] at he
        have hji : j = i := by simpa using hji
        subst hji
        obtain ⟨hi, b, off, hat⟩ := lent_at (hI.rep c _ hgc)
        exact storeRow_sound hf hI hl o ρ E x y ho hE hgc rfl hat hi hx hz ha he
  · simp [M.run] at he
end
end Go.Rf

namespace Go.Rf

section
variable {P : Program} {H : Hints} {w w' : World} {S : Nat → Prop} {hv : Nat → Value} {F : Nat → Nat → Prop} {g gl gm : Look}

def BaseC (w : World) (sz : Nat) (v : Value) (len : Nat) (olds : List Value) : Prop :=
  (v = .slice none 0 0 ∧ len = 0 ∧ olds = []) ∨
  ∃ (b o cap : Nat) (arr : Array Value) (U : Nat), v = .slice (some ⟨b, o, none⟩) len cap ∧ len ≤ cap ∧ w.heap[b]? = some (.cells arr U (0, 0)) ∧ o + cap * sz ≤ arr.size ∧ olds.length = len * sz ∧ rd w b o olds

def SrcC (P : Program) (w : World) (T U : Nat) (sz : Nat) (z : Array Value) (x : Value) (m : Nat) (news : List Value) : Prop :=
  (∃ k k', P.underlying U = some (.int k) ∧ x = .int k' (m : Int) ∧ m ≤ lim ∧ news = (Builtin.zeroCells z m).toList) ∨
  (U = T ∧ ((∃ A, x = .slice A 0 0 ∧ m = 0 ∧ news = []) ∨ ∃ b o cap, x = .slice (some ⟨b, o, none⟩) m cap ∧ news.length = m * sz ∧ rd w b o news))

theorem rd_add {b o : Nat} {cs : List Value} (h : rd w b o cs) : ∀ j v, cs[j]? = some v → w.cell? ((⟨b, o, none⟩ : Addr).add j) = some v := fun j v hj => by
  rw [Addr.add_none]; exact h j v hj

theorem run_lenOf (b : Option Addr) (n c : Nat) : (Builtin.lenOf (.slice b n c)).run P w = .ok n w := rfl

theorem zeroCells_size (z : Array Value) (n : Nat) : (Builtin.zeroCells z n).size = n * z.size := by simp [Builtin.zeroCells]

def grownW (w : World) (need old E : Nat) (z : Array Value) (olds news : List Value) : World :=
  w.drew.alloc (.cells (olds.toArray ++ (news.toArray ++ Builtin.zeroCells z (grownCap w need old E - need))) E (0, 0))

theorem run_append (hf : Fit P H) {T U : Nat} {t : Ty} (hT : H.ty T = some (.sl t)) (ty : TypeId) {v x : Value} {len m : Nat} {olds news : List Value} {z : Array Value} (hz : ∀ E i, P.underlying T = some (.slice E) → P.info? E = some i → ∀ z0, i.zero = some z0 → z0.cells = z)
    (hb : BaseC w (size t) v len olds) (hs : SrcC P w T U (size t) z x m news) (h1 : ∀ u ∈ news, u.oneCell' = true) (hlim : len + m ≤ lim) (hnl : news.length = m * size t) :
    ∃ v' w', (Builtin.append_ #[T, U] ty #[v, x]).run P w = .ok v' w' ∧
      ((v = .slice none 0 0 ∧ m = 0 ∧ v' = v ∧ w' = w) ∨
       (∃ (b o cap : Nat) (arr : Array Value) (V : Nat), v = .slice (some ⟨b, o, none⟩) len cap ∧ w.heap[b]? = some (.cells arr V (0, 0)) ∧ len + m ≤ cap ∧ v' = .slice (some ⟨b, o, none⟩) (len + m) cap ∧ w' = w.setRow b (seg arr (o + len * size t) news)) ∨
       ((v = .slice none 0 0 → m ≠ 0) ∧ ∃ cap E zs, v' = .slice (some ⟨w.heap.size, 0, none⟩) (len + m) cap ∧ len + m ≤ cap ∧ w'.heap = (w.alloc (.cells (olds ++ (news ++ zs)).toArray E (0, 0))).heap ∧ zs.length = (cap - (len + m)) * size t ∧ Still w w')) := by
  obtain ⟨E, hu, hE⟩ := (hf.ty T _ hT).under
  have hft := hf.ty E t hE
  obtain ⟨i, z0, h3, h4, h5, h6, h7, _⟩ := hft.info
  have hz0 := hz E i hu h3 z0 h6
  have hzs : z.size = size t := by rw [← hz0, ← zcells_length t, ← h7]; simp
  have hpos := hft.pos
  have hl1 : lim = 1099511627776 := rfl
  -- the new cells, in any memory with the same cells
  have hgrow : ∀ cap, cap < len + m → ¬ (281474976710656 < Builtin.nextslicecap (len + m) cap * i.bytes) := by
    intro cap hc
    have hb : (len + m) * i.bytes ≤ 140737488355328 := by
      have : (len + m) * i.bytes ≤ lim * 128 := Nat.mul_le_mul hlim h5
      omega
    have := growslice_fits hc hb
    omega
  have hnew : ∀ old, old < len + m → ∃ cap E' zs, Value.slice (some ⟨w.heap.size, 0, none⟩) (len + m) (grownCap w (len + m) old E) = .slice (some ⟨w.heap.size, 0, none⟩) (len + m) cap ∧ len + m ≤ cap ∧
      (grownW w (len + m) old E z olds news).heap = (w.alloc (.cells (olds ++ (news ++ zs)).toArray E' (0, 0))).heap ∧ zs.length = (cap - (len + m)) * size t ∧ Still w (grownW w (len + m) old E z olds news) := by
    intro old _
    refine ⟨grownCap w (len + m) old E, E, (Builtin.zeroCells z (grownCap w (len + m) old E - (len + m))).toList, rfl, grownCap_ge w _ _ E, ?_, by simp [zeroCells_size, hzs], ⟨rfl, rfl, rfl, Nat.le_succ _⟩⟩
    have e : (olds ++ (news ++ (Builtin.zeroCells z (grownCap w (len + m) old E - (len + m))).toList)).toArray = olds.toArray ++ (news.toArray ++ Builtin.zeroCells z (grownCap w (len + m) old E - (len + m))) := by apply Array.ext'; simp
    rw [e]
    rfl
  rcases hs with ⟨k, k', hU, rfl, hm, rfl⟩ | ⟨rfl, hs⟩
  · -- zeros
    have e1 : IntKind.i64.wrap (m : Int) = m := by simp [IntKind.wrap, IntKind.bits, IntKind.signed]; omega
    have e2 : ¬ ((281474976710656 : Int) < (m : Int) * (i.bytes : Int)) := by
      have : m * i.bytes ≤ lim * 128 := Nat.mul_le_mul hm h5
      have h8 : ((m * i.bytes : Nat) : Int) ≤ ((lim * 128 : Nat) : Int) := by exact_mod_cast this
      push_cast at h8
      simp only [hl1] at h8
      omega
    have e3 : ¬ ((m : Int) < 0) := by omega
    have e10 : IntKind.i64.wrap 0 = 0 := rfl
    have h63 : ∀ k : Nat, k ≤ lim → ¬ ((9223372036854775807 : Int) < (k : Int)) := by intro k hk; omega
    rcases hb with ⟨rfl, rfl, rfl⟩ | ⟨b, o, cap, arr, V, rfl, hlc, hb, hfit, hol, hrd⟩
    · by_cases hm0 : m = 0
      · subst hm0
        refine ⟨_, w, ?_, .inl ⟨rfl, rfl, rfl, rfl⟩⟩
        simp [Builtin.append_, run_underlying hu, run_underlying hU, sizeOf, typeInfo, h3, asInt, asIntOf, e10]
      · have hg := hgrow 0 (by omega)
        have hmz : ¬ (m * size t = 0) := by rw [Nat.mul_eq_zero]; omega
        have h63m := h63 m hm
        simp only [Nat.zero_add] at hg
        refine ⟨_, _, ?_, .inr (.inr ⟨fun _ => hm0, hnew 0 (by omega)⟩)⟩
        simp [Builtin.append_, run_underlying hu, run_underlying hU, sizeOf, typeInfo, h3, asInt, asIntOf, e1, e2, e3, e10, hm0, hg, h63m, h4, hmz, zeroValue, h6, hz0, Builtin.firstCells, newRow, Question.forced, askRoom_run, grownCap, grownW]
    · by_cases hroom : len + m ≤ cap
      · refine ⟨_, _, ?_, .inr (.inl ⟨b, o, cap, arr, V, rfl, hb, hroom, rfl, rfl⟩)⟩
        by_cases hm0 : m = 0
        · subst hm0
          have hz : Builtin.zeroCells z 0 = #[] := by simp [Builtin.zeroCells]
          have hse : seg arr (o + len * size t) [] = arr := by apply Array.ext'; simp [seg]
          simp [Builtin.append_, run_underlying hu, run_underlying hU, sizeOf, typeInfo, h3, asInt, asIntOf, e10, h4, hlc, hz, hse, storeCells, setRow_self w b arr V (0, 0) hb]
        · have hmz : ¬ (m * size t = 0) := by rw [Nat.mul_eq_zero]; omega
          have hst := run_storeCells_at P b (o + len * size t) V (Builtin.zeroCells z m).toList 0 arr w hb (by
            simp only [Nat.add_zero, hnl]
            have : (len + m) * size t ≤ cap * size t := Nat.mul_le_mul_right _ hroom
            rw [Nat.add_mul] at this
            omega) h1
          simp only [Nat.add_zero] at hst
          simp [Builtin.append_, run_underlying hu, run_underlying hU, sizeOf, typeInfo, h3, asInt, asIntOf, e1, e2, e3, hroom, h4, hm0, hmz, zeroValue, h6, hz0, Addr.add_none, hst, seg]
      · have hg := hgrow cap (by omega)
        have h63m := h63 (len + m) hlim
        have hfo : ∀ w2 : World, w2.heap = w.heap → (Builtin.firstCells (size t) len (.slice (some ⟨b, o, none⟩) len cap)).run P w2 = .ok olds.toArray w2 := fun w2 h2 =>
          run_firstCells_some (P := P) w2 (size t) len ⟨b, o, none⟩ len cap olds hol (rd_add (rd_heap (by rw [h2]) hrd))
        refine ⟨_, _, ?_, .inr (.inr ⟨(fun h => by cases h), hnew cap (by omega)⟩)⟩
        have hm0 : ¬ (m = 0) := by omega
        have hmz : ¬ (m * size t = 0) := by rw [Nat.mul_eq_zero]; omega
        push_cast at h63m
        simp [Builtin.append_, run_underlying hu, run_underlying hU, sizeOf, typeInfo, h3, asInt, asIntOf, e1, e2, e3, hroom, hm0, hg, h63m, h4, hmz, Nat.ne_of_gt hpos, zeroValue, h6, hz0, hfo w.drew rfl, newRow, Question.forced, askRoom_run, grownCap, grownW]
  · -- a slice
    rcases hs with ⟨A, rfl, rfl, rfl⟩ | ⟨b2, o2, c2, rfl, hl2, hrd2⟩
    · rcases hb with ⟨rfl, rfl, rfl⟩ | ⟨b, o, cap, arr, V, rfl, hlc, hb, hfit, hol, hrd⟩
      · refine ⟨_, w, ?_, .inl ⟨rfl, rfl, rfl, rfl⟩⟩
        cases A <;> simp [Builtin.append_, run_underlying hu, sizeOf, typeInfo, h3, Builtin.lenOf, Builtin.firstCells, loadCells, loadCellsFrom]
      · refine ⟨_, _, ?_, .inr (.inl ⟨b, o, cap, arr, V, rfl, hb, hlc, rfl, rfl⟩)⟩
        have hse : seg arr (o + len * size t) [] = arr := by apply Array.ext'; simp [seg]
        cases A <;> simp [Builtin.append_, run_underlying hu, sizeOf, typeInfo, h3, Builtin.lenOf, Builtin.firstCells, loadCells, loadCellsFrom, hlc, storeCells, hse, setRow_self w b arr V (0, 0) hb]
    · have hf2 : ∀ w2 : World, w2.heap = w.heap → (Builtin.firstCells (size t) m (.slice (some ⟨b2, o2, none⟩) m c2)).run P w2 = .ok news.toArray w2 := fun w2 h2 =>
        run_firstCells_some (P := P) w2 (size t) m ⟨b2, o2, none⟩ m c2 news hl2 (rd_add (rd_heap (by rw [h2]) hrd2))
      have h63 : ∀ k : Nat, k ≤ lim → ¬ ((9223372036854775807 : Int) < (k : Int)) := by intro k hk; omega
      rcases hb with ⟨rfl, rfl, rfl⟩ | ⟨b, o, cap, arr, V, rfl, hlc, hb, hfit, hol, hrd⟩
      · by_cases hm0 : m = 0
        · subst hm0
          refine ⟨_, w, ?_, .inl ⟨rfl, rfl, rfl, rfl⟩⟩
          simp [Builtin.append_, run_underlying hu, sizeOf, typeInfo, h3, Builtin.lenOf, Builtin.firstCells, h4, loadCells, loadCellsFrom]
        · have hg := hgrow 0 (by omega)
          have h63m := h63 m (by omega)
          simp only [Nat.zero_add] at hg
          refine ⟨_, _, ?_, .inr (.inr ⟨fun _ => hm0, hnew 0 (by omega)⟩)⟩
          simp [Builtin.append_, run_underlying hu, sizeOf, typeInfo, h3, Builtin.lenOf, hm0, hg, h63m, h4, zeroValue, h6, hz0, run_firstCells_none, hf2 w.drew rfl, newRow, Question.forced, askRoom_run, grownCap, grownW]
      · by_cases hroom : len + m ≤ cap
        · refine ⟨_, _, ?_, .inr (.inl ⟨b, o, cap, arr, V, rfl, hb, hroom, rfl, rfl⟩)⟩
          have hst := run_storeCells_at P b (o + len * size t) V news 0 arr w hb (by
            simp only [Nat.add_zero, hnl]
            have : (len + m) * size t ≤ cap * size t := Nat.mul_le_mul_right _ hroom
            rw [Nat.add_mul] at this
            omega) h1
          simp only [Nat.add_zero] at hst
          simp [Builtin.append_, run_underlying hu, sizeOf, typeInfo, h3, Builtin.lenOf, hroom, h4, hf2 w rfl, Addr.add_none, hst, seg]
        · have hg := hgrow cap (by omega)
          have h63m := h63 (len + m) hlim
          have hfo : ∀ w2 : World, w2.heap = w.heap → (Builtin.firstCells (size t) len (.slice (some ⟨b, o, none⟩) len cap)).run P w2 = .ok olds.toArray w2 := fun w2 h2 =>
            run_firstCells_some (P := P) w2 (size t) len ⟨b, o, none⟩ len cap olds hol (rd_add (rd_heap (by rw [h2]) hrd))
          refine ⟨_, _, ?_, .inr (.inr ⟨(fun h => by cases h), hnew cap (by omega)⟩)⟩
          push_cast at h63m
          simp [Builtin.append_, run_underlying hu, sizeOf, typeInfo, h3, Builtin.lenOf, hroom, hg, h63m, h4, zeroValue, h6, hz0, hf2 w.drew rfl, hfo w.drew rfl, newRow, Question.forced, askRoom_run, grownCap, grownW]
end
end Go.Rf

namespace Go.Rf

section
variable {P : Program} {H : Hints} {w w' : World} {S : Nat → Prop} {hv : Nat → Value} {F : Nat → Nat → Prop} {g gl gm : Look}

theorem row_base {α : Type} {E : α → (Nat → Prop) → List Value → Prop} {sz : Nat} {n : Bool} {bs : List α} {Fc : Nat → Prop} {v : Value} (h : RowB w E sz n bs Fc v) :
    ∃ olds, BaseC w sz v bs.length olds ∧ ((n = true ∧ bs = [] ∧ v = .slice none 0 0 ∧ olds = []) ∨
      (n = false ∧ ∃ (b o cap : Nat) (G : Nat → Nat → Prop), v = .slice (some ⟨b, o, none⟩) bs.length cap ∧ Fc b ∧ (∀ i b', G i b' → Fc b' ∧ b' ≠ b) ∧ (∀ i j b', G i b' → G j b' → i = j) ∧ olds.length = bs.length * sz ∧
        ∀ i e, bs[i]? = some e → ∃ c, c.length = sz ∧ (∀ j u, c[j]? = some u → olds[i * sz + j]? = some u) ∧ E e (G i) c)) := by
  rcases h with ⟨h1, h2, h3⟩ | ⟨h0, b, o, cap, arr, T, G, h1, h2, h3, h4, h5, h6, h7, h8, h9⟩
  · subst h2
    exact ⟨[], .inl ⟨h3, rfl, rfl⟩, .inl ⟨h1, rfl, h3, rfl⟩⟩
  · have hle : bs.length * sz ≤ cap * sz := Nat.mul_le_mul_right _ h2
    have hol : ((arr.toList.drop o).take (bs.length * sz)).length = bs.length * sz := by simp; omega
    have hget : ∀ k, k < bs.length * sz → ((arr.toList.drop o).take (bs.length * sz))[k]? = arr[o + k]? := by
      intro k hk
      rw [List.getElem?_take_of_lt hk, List.getElem?_drop]
      simp
    refine ⟨(arr.toList.drop o).take (bs.length * sz), .inr ⟨b, o, cap, arr, T, h1, h2, h4, h5, hol, ?_⟩, .inr ⟨h0, b, o, cap, G, h1, h6, h7, h8, hol, ?_⟩⟩
    · rw [rd_iff h4]
      intro j u hj
      have := (List.getElem?_eq_some_iff.1 hj).1
      rw [hget j (by omega)] at hj
      exact hj
    · intro i e he
      obtain ⟨c, k1, k2, k3⟩ := h9 i e he
      refine ⟨c, k1, fun j u hj => ?_, k3⟩
      have hjl := (List.getElem?_eq_some_iff.1 hj).1
      have hi := (List.getElem?_eq_some_iff.1 he).1
      have hle2 : (i + 1) * sz ≤ bs.length * sz := Nat.mul_le_mul_right _ hi
      rw [Nat.add_mul, Nat.one_mul] at hle2
      rw [rd_iff h4] at k2
      rw [hget _ (by omega), ← Nat.add_assoc]
      exact k2 j u hj

theorem append_core (hf : Fit P H) (hI : Inv w S hv F g) (hl : ∀ c r, gl c = some r → g c = some r) {T U : Nat} {t : Ty} (hT : H.ty T = some (.sl t)) (ty : TypeId) {v x : Value} {n dp : Bool} {bs ys : List (Den t)} {used taken fs : List Nat} {news : List Value}
    (hbase : RowB w (ERep w S dp t) (size t) n bs (FL F used) v) (hsrc : SrcC P w T U (size t) (zcells t).toArray x ys.length news) (h1 : ∀ u ∈ news, u.oneCell' = true) (hlim : bs.length + ys.length ≤ lim) (hnl : news.length = ys.length * size t)
    (hnd : (used ++ taken ++ fs).Nodup) (hus : ∀ k ∈ used ++ taken, g k ≠ none) (hfs : ∀ k ∈ fs, gl k ≠ none) {dp' : Bool} {G2 : Nat → Nat → Prop} (hG2 : ∀ i b, G2 i b → FL F taken b) (hG2d : ∀ i j b, G2 i b → G2 j b → i = j)
    (hnew : Laid (fun i e c => (dp' = true → DRep w t e (G2 i) c) ∧ (dp' = false → Rep w (fun b => S b ∨ FL F fs b) false t e c)) news ys)
    (hold : dp' = true → dp = true ∨ flat t = true) {d : Nat} (hd : g d = none) :
    ∃ v' w', (Builtin.append_ #[T, U] ty #[v, x]).run P w = .ok v' w' ∧ Out w S hv F g ⟨.ref d, (d, .row t dp' (n && ys.isEmpty) (bs ++ ys)) :: (((used ++ taken).map fun c => (c, Rg.gone)) ++ frozen gl fs)⟩ v' w' := by
  obtain ⟨olds, hbc, hb⟩ := row_base hbase
  have hz : ∀ E i, P.underlying T = some (.slice E) → P.info? E = some i → ∀ z0, i.zero = some z0 → z0.cells = (zcells t).toArray := by
    intro E i hu hi z0 hz0
    obtain ⟨E', hu', hE'⟩ := (hf.ty T _ hT).under
    rw [hu] at hu'
    cases hu'
    obtain ⟨i', z', k1, _, _, k2, k3, _⟩ := (hf.ty E t hE').info
    rw [hi] at k1
    cases k1
    rw [hz0] at k2
    cases k2
    apply Array.ext'
    simpa using k3
  obtain ⟨v', w', hrun, hout⟩ := run_append hf hT ty hz hbc hsrc h1 hlim hnl
  refine ⟨v', w', hrun, ?_⟩
  have hst0 : Still w w' := by
    rcases hout with ⟨_, _, _, rfl⟩ | ⟨_, _, _, _, _, _, _, _, _, rfl⟩ | ⟨_, _, _, _, _, _, _, _, h⟩
    · exact ⟨rfl, rfl, rfl, Nat.le_refl _⟩
    · exact ⟨rfl, rfl, rfl, Nat.le_refl _⟩
    · exact h
  have hplain : plain t = true := by
    obtain ⟨E, _, hE⟩ := (hf.ty T _ hT).under
    exact (hf.ty E t hE).plain
  have hpos : 0 < size t := by
    obtain ⟨E, _, hE⟩ := (hf.ty T _ hT).under
    exact (hf.ty E t hE).pos
  have hnd1 := List.nodup_append.1 hnd
  have hnd2 := List.nodup_append.1 hnd1.1
  have hdn : d ∉ used ++ taken := fun h => hus d h hd
  have hdf : d ∉ fs := fun h => by
    obtain ⟨r, hr⟩ := Option.ne_none_iff_exists'.1 (hfs d h)
    have := hl _ _ hr
    rw [hd] at this
    cases this
  have hFg : ∀ b', FL F (used ++ taken) b' → FL F (d :: (used ++ taken)) b' := fun b' ⟨k, hk, hkb⟩ => ⟨k, List.mem_cons_of_mem _ hk, hkb⟩
  have hFold : ∀ b', FL F (used ++ taken) b' → b' < w.heap.size := fun b' ⟨k, hk, hkb⟩ => hI.old k b' hkb
  have hFL1 : ∀ b', FL F used b' → FL F (used ++ taken) b' := fun b' ⟨k, hk, hkb⟩ => ⟨k, List.mem_append_left _ hk, hkb⟩
  have hFL2 : ∀ b', FL F taken b' → FL F (used ++ taken) b' := fun b' ⟨k, hk, hkb⟩ => ⟨k, List.mem_append_right _ hk, hkb⟩
  have hut : ∀ b', FL F used b' → FL F taken b' → False := by
    rintro b' ⟨k, hk, hkb⟩ ⟨k', hk', hkb'⟩
    exact hnd2.2.2 k hk k' hk' (hI.disj k k' b' hkb hkb')
  -- nothing at all
  have hnil : (n = true ∧ bs = [] ∧ ys = [] ∧ v' = .slice none 0 0 ∧ w' = w) → Out w S hv F g ⟨.ref d, (d, .row t dp' (n && ys.isEmpty) (bs ++ ys)) :: (((used ++ taken).map fun c => (c, Rg.gone)) ++ frozen gl fs)⟩ v' w' := by
    rintro ⟨rfl, rfl, rfl, rfl, rfl⟩
    have hs := re_step (w' := w') (r := .row t dp' true []) (v := .slice none 0 0) (gs := used ++ taken) (fs := fs) (Fd := fun _ => False) (Q := fun _ => False) (gl := gl) (d := d) hI hl (fun h => absurd hd h) (fun m h => absurd hd h) (.inl rfl) hdn hdf (fun k h h' => hnd1.2.2 k h k h' rfl) hus hfs
      (Nat.le_refl _) (fun _ _ _ => rfl) (fun _ h => h.elim) (fun _ h => h.elim) (by
        intro hx
        simp only [GRep, if_true]
        exact .inl ⟨rfl, rfl, rfl⟩)
    refine Out.mk (updReg_re g gl d _ (used ++ taken) fs) hs ?_
    rw [VR_cell rfl]
    simp only [CRep, if_true]
    exact ⟨by simp [reLook], rfl, trivial⟩
  -- a row
  have hrow : ∀ (blk o' cap' : Nat) (arr' : Array Value) (V : Nat) (G : Nat → Nat → Prop), v' = .slice (some ⟨blk, o', none⟩) (bs.length + ys.length) cap' → bs.length + ys.length ≤ cap' → w'.heap[blk]? = some (.cells arr' V (0, 0)) → o' + cap' * size t ≤ arr'.size →
      (∀ j u, olds[j]? = some u → arr'[o' + j]? = some u) → (∀ j u, news[j]? = some u → arr'[o' + bs.length * size t + j]? = some u) → (FL F used blk ∨ blk = w.heap.size) → w.heap.size ≤ w'.heap.size → (∀ b', b' < w.heap.size → b' ≠ blk → w'.heap[b']? = w.heap[b']?) →
      (n && ys.isEmpty) = false → (∀ i b', G i b' → FL F used b' ∧ b' ≠ blk) → (∀ i j b', G i b' → G j b' → i = j) → (∀ i e, bs[i]? = some e → ∃ c, c.length = size t ∧ (∀ j u, c[j]? = some u → olds[i * size t + j]? = some u) ∧ ERep w S dp t e (G i) c) →
      Out w S hv F g ⟨.ref d, (d, .row t dp' (n && ys.isEmpty) (bs ++ ys)) :: (((used ++ taken).map fun c => (c, Rg.gone)) ++ frozen gl fs)⟩ v' w' := by
    intro blk o' cap' arr' V G e1 e2 e3 e4 e5 e6 e7 e8 e9 e10 k1 k2 k3
    rw [e10]
    have hblk : blk < w'.heap.size := (Array.getElem?_eq_some_iff.1 e3).1
    have hblkF : ∀ b', FL F taken b' → b' ≠ blk := by
      rintro b' hb' rfl
      rcases e7 with h | h
      · exact hut _ h hb'
      · have := hFold _ (hFL2 _ hb'); omega
    have hS : ∀ b', (S b' ∨ FL F fs b' ∨ (dp' = false ∧ FL F (used ++ taken) b' ∧ b' ≠ blk)) → b' < w.heap.size ∧ b' ≠ blk := by
      rintro b' (h | ⟨k, hk, hkb⟩ | ⟨_, h1, h2⟩)
      · refine ⟨hI.sold _ h, ?_⟩
        rintro rfl
        rcases e7 with ⟨k, _, hkb⟩ | h7
        · exact hI.shr k _ hkb h
        · have := hI.sold _ h; omega
      · refine ⟨hI.old k _ hkb, ?_⟩
        rintro rfl
        rcases e7 with ⟨k', hk', hkb'⟩ | h7
        · have := hI.disj k k' _ hkb hkb'
          subst this
          exact hnd1.2.2 k (List.mem_append_left _ hk') k hk rfl
        · have := hI.old k _ hkb; omega
      · exact ⟨hFold _ h1, h2⟩
    have hs := re_step (w' := w') (r := .row t dp' false (bs ++ ys)) (v := v') (gs := used ++ taken) (fs := fs) (Fd := fun b' => b' = blk ∨ (dp' = true ∧ FL F (used ++ taken) b')) (Q := fun b' => dp' = false ∧ FL F (used ++ taken) b' ∧ b' ≠ blk) (gl := gl) (d := d) hI hl (fun h => absurd hd h) (fun m h => absurd hd h) (.inl rfl) hdn hdf (fun k h h' => hnd1.2.2 k h k h' rfl) hus hfs
      e8 (fun b' hb hn => e9 b' hb (by
        rintro rfl
        rcases e7 with h | h
        · exact hn (hFg _ (hFL1 _ h))
        · omega)) (by
        rintro b' (rfl | ⟨_, h⟩)
        · refine ⟨?_, hblk⟩
          rcases e7 with h | h
          · exact .inl (hFg _ (hFL1 _ h))
          · exact .inr (by omega)
        · exact ⟨.inl (hFg _ h), Nat.lt_of_lt_of_le (hFold _ h) e8⟩) (by
        rintro b' ⟨h1, h2, h3⟩
        refine ⟨hFg _ h2, ?_⟩
        rintro (h | ⟨h, _⟩)
        · exact h3 h
        · rw [h1] at h; cases h) (by
        intro hx
        simp only [GRep, if_true]
        refine .inr ⟨rfl, blk, o', cap', arr', V, fun i b' => dp' = true ∧ (if i < bs.length then G i b' else G2 (i - bs.length) b'), by rw [e1]; simp, by simpa using e2, ?_, e3, e4, .inl rfl, ?_, ?_, ?_⟩
        · simp only [List.length_append]
          have : lim ≤ big := by decide
          omega
        · rintro i b' ⟨h1, h2⟩
          split at h2
          · exact ⟨.inr ⟨h1, hFL1 _ (k1 i b' h2).1⟩, (k1 i b' h2).2⟩
          · exact ⟨.inr ⟨h1, hFL2 _ (hG2 _ b' h2)⟩, hblkF _ (hG2 _ b' h2)⟩
        · rintro i j b' ⟨_, h2⟩ ⟨_, h3⟩
          by_cases hi : i < bs.length
          · by_cases hj : j < bs.length
            · simp only [hi, hj, if_true] at h2 h3
              exact k2 i j b' h2 h3
            · simp only [hi, hj, if_true, if_false] at h2 h3
              exact (hut b' (k1 i b' h2).1 (hG2 _ b' h3)).elim
          · by_cases hj : j < bs.length
            · simp only [hi, hj, if_true, if_false] at h2 h3
              exact (hut b' (k1 j b' h3).1 (hG2 _ b' h2)).elim
            · simp only [hi, hj, if_false] at h2 h3
              have := hG2d _ _ b' h2 h3
              omega
        · intro i e he
          by_cases hi : i < bs.length
          · rw [List.getElem?_append_left hi] at he
            obtain ⟨c, m1, m2, m3⟩ := k3 i e he
            refine ⟨c, m1, ?_, ?_⟩
            · rw [rd_iff e3]
              intro j u hj
              have := e5 _ u (m2 j u hj)
              rwa [← Nat.add_assoc] at this
            · cases dp' with
              | true =>
                have hfr : ∀ b', G i b' → w'.heap[b']? = w.heap[b']? := fun b' h => e9 b' (hFold _ (hFL1 _ (k1 i b' h).1)) (k1 i b' h).2
                cases dp with
                | true =>
                  refine DRep_mono _ _ _ _ _ (fun b' h => ⟨rfl, ?_⟩) hfr m3
                  simp only [hi, if_true]
                  exact h
                | false =>
                  have hft := (hold rfl).resolve_left (by simp)
                  exact Rep_flat_D _ _ _ hft m3
              | false =>
                have m4 : Rep w (fun b' => S b' ∨ FL F fs b' ∨ (false = false ∧ FL F (used ++ taken) b' ∧ b' ≠ blk)) false t e c := by
                  cases dp with
                  | true => exact DRep_Rep _ _ _ _ (fun b' h => .inr (.inr ⟨rfl, hFL1 _ (k1 i b' h).1, (k1 i b' h).2⟩)) m3
                  | false => exact Rep_mono (fun _ _ _ _ h => h) (fun _ h => .inl h) _ _ _ _ m3
                refine Rep_mono (fun b' o v hb hc => ?_) (fun _ h => h) _ _ _ _ m4
                obtain ⟨h1, h2⟩ := hS b' hb
                rw [cell_heap (e9 b' h1 h2)]
                exact hc
          · rw [List.getElem?_append_right (by omega)] at he
            obtain ⟨c, m1, m2, m3, m4⟩ := hnew _ e he
            refine ⟨c, m1, ?_, ?_⟩
            · rw [rd_iff e3]
              intro j u hj
              have := e6 _ u (m2 j u hj)
              rw [← this]
              congr 1
              have : i * size t = bs.length * size t + (i - bs.length) * size t := by rw [← Nat.add_mul]; congr 1; omega
              omega
            · cases dp' with
              | true =>
                refine DRep_mono _ _ _ _ _ (fun b' h => ⟨rfl, ?_⟩) (fun b' h => e9 b' (hFold _ (hFL2 _ (hG2 _ b' h))) (hblkF _ (hG2 _ b' h))) (m3 rfl)
                simp only [hi, if_false]
                exact h
              | false =>
                refine Rep_mono (fun b' o v hb hc => ?_) (fun b' h => ?_) _ _ _ _ (m4 rfl)
                · obtain ⟨h1, h2⟩ := hS b' (by rcases hb with h | h; exact .inl h; exact .inr (.inl h))
                  rw [cell_heap (e9 b' h1 h2)]
                  exact hc
                · rcases h with h | h
                  · exact .inl h
                  · exact .inr (.inl h))
    refine Out.mk (updReg_re g gl d _ (used ++ taken) fs) hs ?_
    rw [VR_cell rfl]
    simp only [CRep, if_true]
    exact ⟨by simp [reLook], by rw [e1]; rfl, trivial⟩
  rcases hout with ⟨h2, h3, h4, h5⟩ | ⟨b, o, cap, arr, V, h2, h3, h4, h5, h6⟩ | ⟨h2, cap, E, zs, h3, h4, h5, h6, _⟩
  · refine hnil ?_
    rcases hb with ⟨k1, k2, _, _⟩ | ⟨_, b, o, cap, G, k1, _⟩
    · exact ⟨k1, k2, List.eq_nil_of_length_eq_zero h3, by rw [h4, h2], h5⟩
    · rw [h2] at k1; cases k1
  · -- in place
    rcases hb with ⟨_, _, k3, _⟩ | ⟨k0, b1, o1, cap1, G, k1, k2, k3, k4, k5, k6⟩
    · rw [h2] at k3; cases k3
    rw [h2] at k1
    cases k1
    have hfit : o + bs.length * size t + news.length ≤ arr.size := by
      rcases hbc with ⟨m1, _⟩ | ⟨b2, o2, cap2, arr2, V2, m1, m2, m3, m4, m5, m6⟩
      · rw [h2] at m1; cases m1
      · rw [h2] at m1
        cases m1
        rw [h3] at m3
        cases m3
        have : (bs.length + ys.length) * size t ≤ cap * size t := Nat.mul_le_mul_right _ h4
        rw [Nat.add_mul] at this
        omega
    have hw : w'.heap[b]? = some (.cells (seg arr (o + bs.length * size t) news) V (0, 0)) := by rw [h6]; exact setRow_heap w b arr _ V _ h3
    refine hrow b o cap _ V G h5 h4 hw ?_ ?_ ?_ (.inl k2) ?_ ?_ (by simp [k0]) k3 k4 k6
    · rw [seg_size hfit]
      rcases hbc with ⟨m1, _⟩ | ⟨b2, o2, cap2, arr2, V2, m1, m2, m3, m4, m5, m6⟩
      · rw [h2] at m1; cases m1
      · rw [h2] at m1
        cases m1
        rw [h3] at m3
        cases m3
        exact m4
    · intro j u hj
      have hjl := (List.getElem?_eq_some_iff.1 hj).1
      rw [seg_out hfit (.inl (by omega))]
      rcases hbc with ⟨m1, _⟩ | ⟨b2, o2, cap2, arr2, V2, m1, m2, m3, m4, m5, m6⟩
      · rw [h2] at m1; cases m1
      · rw [h2] at m1
        cases m1
        rw [h3] at m3
        cases m3
        rw [rd_iff h3] at m6
        exact m6 j u hj
    · intro j u hj
      rw [seg_in hfit (List.getElem?_eq_some_iff.1 hj).1]
      exact hj
    · rw [h6, setRow_size]; exact Nat.le_refl _
    · intro b' _ hne
      rw [h6]; exact setRow_other _ _ _ _ hne
  · -- anew
    have hw : ∀ b', w'.heap[b']? = if b' = w.heap.size then some (.cells (olds ++ (news ++ zs)).toArray E (0, 0)) else w.heap[b']? := fun b' => by rw [h5, heap_alloc_at]
    have hsz : w'.heap.size = w.heap.size + 1 := by rw [h5]; simp
    have hol : olds.length = bs.length * size t := by
      rcases hbc with ⟨_, m1, m2⟩ | ⟨b2, o2, cap2, arr2, V2, m1, m2, m3, m4, m5, m6⟩
      · rw [m1, m2]; simp
      · exact m5
    have hG : ∃ G : Nat → Nat → Prop, (∀ i b', G i b' → FL F used b') ∧ (∀ i j b', G i b' → G j b' → i = j) ∧ (∀ i e, bs[i]? = some e → ∃ c, c.length = size t ∧ (∀ j u, c[j]? = some u → olds[i * size t + j]? = some u) ∧ ERep w S dp t e (G i) c) := by
      rcases hb with ⟨_, k2, _, _⟩ | ⟨k0, b1, o1, cap1, G, k1, k2, k3, k4, k5, k6⟩
      · subst k2
        exact ⟨fun _ _ => False, fun _ _ h => h.elim, fun _ _ _ h => h.elim, fun i e he => by simp at he⟩
      · exact ⟨G, fun i b' h => (k3 i b' h).1, k4, k6⟩
    obtain ⟨G, g1, g2, g3⟩ := hG
    refine hrow w.heap.size 0 cap _ E G h3 h4 (by rw [hw, if_pos rfl]) ?_ ?_ ?_ (.inr rfl) (by omega) (fun b' h1 h2 => by rw [hw, if_neg h2]) ?_ (fun i b' h => ⟨g1 i b' h, by have := hFold _ (hFL1 _ (g1 i b' h)); omega⟩) g2 g3
    · simp only [List.size_toArray, List.length_append, hol, hnl, h6]
      rw [← Nat.add_assoc, ← Nat.add_mul, ← Nat.add_mul]
      have : bs.length + ys.length + (cap - (bs.length + ys.length)) = cap := by omega
      rw [this]
      omega
    · intro j u hj
      have hjl := (List.getElem?_eq_some_iff.1 hj).1
      simp only [Nat.zero_add, List.getElem?_toArray]
      rw [List.getElem?_append_left hjl]
      exact hj
    · intro j u hj
      have hjl := (List.getElem?_eq_some_iff.1 hj).1
      simp only [Nat.zero_add, List.getElem?_toArray]
      rw [List.getElem?_append_right (by omega), List.getElem?_append_left (by omega)]
      rw [← hj]
      congr 1
      omega
    · rcases hb with ⟨k1, _, k3, _⟩ | ⟨k0, _⟩
      · have := h2 k3
        cases ys with
        | nil => simp at this
        | cons a l => simp [k1]
      · simp [k0]
end
end Go.Rf

namespace Go.Rf

section
variable {P : Program} {H : Hints} {w w' : World} {S : Nat → Prop} {hv : Nat → Value} {F : Nat → Nat → Prop} {g gl gm : Look}

theorem RowB_sub {α : Type} {E : α → (Nat → Prop) → List Value → Prop} {sz : Nat} {n : Bool} {xs : List α} {Fc : Nat → Prop} {hc v : Value} {lo hi : Nat} (h : RowB w E sz n xs Fc hc) (hs : SubV hc sz lo hi v) : RowB w E sz n ((xs.take hi).drop lo) Fc v := by
  rcases h with ⟨h1, h2, h3⟩ | ⟨h0, b, o, cap, arr, T, G, h1, h2, h3, h4, h5, h6, h7, h8, h9⟩
  · subst h2
    rcases hs with ⟨_, h5, _⟩ | ⟨b, o, n', cap, o', h4, _⟩
    · exact .inl ⟨h1, by simp, h5⟩
    · rw [h3] at h4; cases h4
  · rcases hs with ⟨h10, _⟩ | ⟨b', o1, n', cap', o', k1, k2, k3, k4, k5, k6, k7, k8⟩
    · rw [h1] at h10; cases h10
    rw [h1] at k1
    cases k1
    have hlen : ((xs.take hi).drop lo).length = hi - lo := by simp; omega
    refine .inr ⟨h0, b, o', cap - lo, arr, T, fun i => G (lo + i), by rw [hlen]; exact k2, by rw [hlen]; omega, by rw [hlen]; omega, h4, by omega, h6, fun i b' h => h7 _ b' h, fun i j b' h h' => by have := h8 _ _ b' h h'; omega, ?_⟩
    intro i e he
    have hi' : i < hi - lo := by rw [← hlen]; exact (List.getElem?_eq_some_iff.1 he).1
    rw [List.getElem?_drop, List.getElem?_take_of_lt (by omega)] at he
    obtain ⟨c, m1, m2, m3⟩ := h9 _ e he
    refine ⟨c, m1, ?_, m3⟩
    rw [k7 (by omega)]
    have : o + lo * sz + i * sz = o + (lo + i) * sz := by rw [Nat.add_mul]; omega
    rw [this]
    exact m2

theorem FL_one {F : Nat → Nat → Prop} {c : Nat} : FL F [c] = F c := by
  funext b
  simp [FL]

theorem baseOf_sound (hI : Inv w S hv F g) (hl : ∀ c r, gl c = some r → g c = some r) {t : Ty} {a : SV} {v : Value} (hx : VR w S hv g a v) {n dp : Bool} {bs : List (Den t)} {used : List Nat} (h : (baseOf gl t a).run = some (n, bs, dp, used)) :
    RowB w (ERep w S dp t) (size t) n bs (FL F used) v ∧ (∀ k ∈ used, g k ≠ none) ∧ used.Nodup := by
  unfold baseOf at h
  split at h
  · simp only [M.run, Option.some.injEq, Prod.mk.injEq] at h
    obtain ⟨rfl, rfl, rfl, rfl⟩ := h
    rw [VR_cell rfl] at hx
    simp only [CRep, List.cons.injEq, and_true] at hx
    exact ⟨.inl ⟨rfl, rfl, hx⟩, by simp, by simp⟩
  · rename_i u x
    split at h
    rotate_left
    · simp [M.run] at h
    rename_i y hy
    simp only [M.run] at h
    cases hn : y.1 with
    | false => simp [hn] at h
    | true =>
      simp only [hn, cond_true, Option.some.injEq, Prod.mk.injEq] at h
      obtain ⟨rfl, rfl, rfl, rfl⟩ := h
      have := cast_spec hy
      simp only [Sigma.mk.injEq] at this
      obtain ⟨rfl, hh⟩ := this
      have := eq_of_heq hh
      subst this
      rw [VR_cell rfl] at hx
      simp only [CRep, Rep, List.cons.injEq, and_true] at hx
      rcases hx with ⟨_, _, h3⟩ | ⟨h3, _⟩ | ⟨h3, _⟩
      · exact ⟨.inl ⟨rfl, rfl, h3⟩, by simp, by simp⟩
      · rw [hn] at h3; cases h3
      · rw [hn] at h3; cases h3
  · rename_i c
    split at h
    rotate_left
    · simp [M.run] at h
    rename_i u dp' n' xs hc
    split at h
    rotate_left
    · simp [M.run] at h
    rename_i ys hy
    simp only [M.run, Option.some.injEq, Prod.mk.injEq] at h
    obtain ⟨rfl, rfl, rfl, rfl⟩ := h
    have := castL_spec hy
    simp only [Sigma.mk.injEq] at this
    obtain ⟨rfl, hh⟩ := this
    have := eq_of_heq hh
    subst this
    have hgc := hl _ _ hc
    have := hI.rep c _ hgc
    simp only [GRep] at this
    rw [ref_val hx, FL_one]
    exact ⟨this, by simp [hgc], by simp⟩
  · rename_i c sz lo hi
    split at h
    rotate_left
    · simp [M.run] at h
    rename_i u dp' n' xs hc
    split at h
    rotate_left
    · simp [M.run] at h
    rename_i ys hy hsz
    simp only [M.run, Option.some.injEq, Prod.mk.injEq] at h
    obtain ⟨rfl, rfl, rfl, rfl⟩ := h
    have := castL_spec hy
    simp only [Sigma.mk.injEq] at this
    obtain ⟨rfl, hh⟩ := this
    have := eq_of_heq hh
    subst this
    have hsz : sz = size u := by simpa using hsz
    subst hsz
    have hgc := hl _ _ hc
    have hr := hI.rep c _ hgc
    simp only [GRep] at hr
    rw [VR_cell rfl] at hx
    simp only [CRep, List.cons.injEq, and_true] at hx
    obtain ⟨_, v', rfl, hs⟩ := hx
    rw [FL_one]
    exact ⟨RowB_sub hr hs, by simp [hgc], by simp⟩
  · simp [M.run] at h

theorem Laid_one {t : Ty} {E : Nat → Den t → List Value → Prop} {cs : List Value} {xs : List (Den t)} (h : Laid E cs xs) (hl : cs.length = xs.length * size t) (hp : 0 < size t) (hE : ∀ i e c, E i e c → ∀ v ∈ c, v.oneCell' = true) : ∀ v ∈ cs, v.oneCell' = true := by
  intro v hv
  obtain ⟨k, hk⟩ := List.getElem?_of_mem hv
  have hkl := (List.getElem?_eq_some_iff.1 hk).1
  have hi : k / size t < xs.length := by rw [Nat.div_lt_iff_lt_mul hp]; omega
  obtain ⟨c, h1, h2, h3⟩ := h (k / size t) xs[k / size t] (by simp [hi])
  have hj : k % size t < c.length := by rw [h1]; exact Nat.mod_lt _ hp
  have := h2 (k % size t) c[k % size t] (by simp [hj])
  have hk2 : k / size t * size t + k % size t = k := by rw [Nat.mul_comm]; exact Nat.div_add_mod k (size t)
  rw [hk2, hk] at this
  simp only [Option.some.injEq] at this
  subst this
  exact hE _ _ c h3 _ (by simp)

/-- a slice that is read: its cells -/
theorem Rep_src {P : Program} {T : Nat} {t : Ty} {y : Den (.sl t)} {v : Value} (hp : 0 < size t) (h : Rep w S false (.sl t) y [v]) :
    ∃ news, SrcC P w T T (size t) (zcells t).toArray v y.2.length news ∧ news.length = y.2.length * size t ∧ Laid (fun _ e c => Rep w S false t e c) news y.2 := by
  simp only [Rep, List.cons.injEq, and_true] at h
  rcases h with ⟨_, h2, h3⟩ | ⟨_, b, o, cap, h1, h2, h3, h4⟩ | ⟨_, h2, A, h3⟩
  · exact ⟨[], .inr ⟨rfl, .inl ⟨_, h3, by simp [h2], rfl⟩⟩, by simp [h2], fun i e he => by simp [h2] at he⟩
  rotate_left
  · exact ⟨[], .inr ⟨rfl, .inl ⟨_, h3, by simp [h2], rfl⟩⟩, by simp [h2], fun i e he => by simp [h2] at he⟩
  · refine ⟨(List.range (y.2.length * size t)).map fun k => (w.cell? ⟨b, o + k, none⟩).getD undef, .inr ⟨rfl, .inr ⟨b, o, cap, h1, by simp, ?_⟩⟩, by simp, ?_⟩
    · intro k u hk
      have hkl := (List.getElem?_eq_some_iff.1 hk).1
      simp at hkl
      simp [List.getElem?_map, List.getElem?_range hkl] at hk
      have hi : k / size t < y.2.length := by rw [Nat.div_lt_iff_lt_mul hp]; omega
      obtain ⟨_, c, m1, m2, m3⟩ := h4 (k / size t) _ (List.getElem?_eq_getElem hi)
      have hj : k % size t < c.length := by rw [m1]; exact Nat.mod_lt _ hp
      have := m2 (k % size t) c[k % size t] (by simp [hj])
      have hk2 : k / size t * size t + k % size t = k := by rw [Nat.mul_comm]; exact Nat.div_add_mod k (size t)
      rw [Nat.add_assoc, hk2] at this
      rw [this] at hk ⊢
      simpa using hk
    · intro i e he
      obtain ⟨_, c, m1, m2, m3⟩ := h4 i e he
      refine ⟨c, m1, ?_, m3⟩
      intro j u hj
      have hjl := (List.getElem?_eq_some_iff.1 hj).1
      have hil := (List.getElem?_eq_some_iff.1 he).1
      have hle : (i + 1) * size t ≤ y.2.length * size t := Nat.mul_le_mul_right _ hil
      rw [Nat.add_mul, Nat.one_mul] at hle
      have := m2 j u hj
      rw [Nat.add_assoc] at this
      simp [List.getElem?_map, List.getElem?_range (show i * size t + j < y.2.length * size t by omega), this]

theorem RowB_src {P : Program} {T : Nat} {t : Ty} {E : Den t → (Nat → Prop) → List Value → Prop} {n : Bool} {xs : List (Den t)} {Fc : Nat → Prop} {v : Value} (h : RowB w E (size t) n xs Fc v) :
    ∃ (news : List Value) (G : Nat → Nat → Prop), SrcC P w T T (size t) (zcells t).toArray v xs.length news ∧ news.length = xs.length * size t ∧ (∀ i b, G i b → Fc b) ∧ (∀ i j b, G i b → G j b → i = j) ∧ Laid (fun i e c => E e (G i) c) news xs := by
  obtain ⟨olds, h1, h2⟩ := row_base h
  rcases h2 with ⟨_, k2, k3, k4⟩ | ⟨_, b, o, cap, G, k1, k2, k3, k4, k5, k6⟩
  · exact ⟨[], fun _ _ => False, .inr ⟨rfl, .inl ⟨_, k3, by simp [k2], rfl⟩⟩, by simp [k2], fun _ _ h => h.elim, fun _ _ _ h => h.elim, fun i e he => by simp [k2] at he⟩
  · refine ⟨olds, G, .inr ⟨rfl, .inr ⟨b, o, cap, k1, k5, ?_⟩⟩, k5, fun i b h => (k3 i b h).1, k4, k6⟩
    rcases h1 with ⟨m1, _⟩ | ⟨b2, o2, cap2, arr2, V2, m1, m2, m3, m4, m5, m6⟩
    · rw [k1] at m1; cases m1
    · rw [k1] at m1
      cases m1
      exact m6
end
end Go.Rf

namespace Go.Rf

section
variable {P : Program} {H : Hints} {w w' : World} {S : Nat → Prop} {hv : Nat → Value} {F : Nat → Nat → Prop} {g gl gm : Look}

theorem append_fin (hf : Fit P H) (hI : Inv w S hv F g) (hl : ∀ c r, gl c = some r → g c = some r) (o : Oper) (ρ : Operand → Value) (T U : Nat) (X Y : Operand) (ho : o.op = .call { callee := .builtin .append, args := #[X, Y], argTypes := #[T, U] }) {t : Ty} (hT : H.ty T = some (.sl t))
    {n dp : Bool} {bs ys : List (Den t)} {used taken fs : List Nat} {news : List Value}
    (hbase : RowB w (ERep w S dp t) (size t) n bs (FL F used) (ρ X)) (hus : ∀ k ∈ used, g k ≠ none) (hsrc : SrcC P w T U (size t) (zcells t).toArray (ρ Y) ys.length news) (hnl : news.length = ys.length * size t)
    (hnd : (used ++ taken ++ fs).Nodup) (hta : ∀ k ∈ taken, g k ≠ none) (hfs : ∀ k ∈ fs, gl k ≠ none) {dp' : Bool} {G2 : Nat → Nat → Prop} (hG2 : ∀ i b, G2 i b → FL F taken b) (hG2d : ∀ i j b, G2 i b → G2 j b → i = j)
    (hnew : Laid (fun i e c => (dp' = true → DRep w t e (G2 i) c) ∧ (dp' = false → Rep w (fun b => S b ∨ FL F fs b) false t e c)) news ys)
    (hold : dp' = true → dp = true ∨ flat t = true) {d : Nat} (hd : g d = none) {upd : List (Nat × Rg)} (hupd : upd = (taken.map fun c => (c, Rg.gone)) ++ frozen gl fs) {e : Eff}
    (he : (M.ite (decide (bs.length + ys.length ≤ lim)) (.ret ⟨.ref d, (d, .row t dp' (n && ys.isEmpty) (bs ++ ys)) :: upd ++ used.map fun c => (c, Rg.gone)⟩) .fail : M Eff).run = some e) :
    Res P ((execOp ρ o).run P w) (Out w S hv F g e) := by
  simp only [M.run] at he
  cases hlim : decide (bs.length + ys.length ≤ lim) with
  | false => simp [hlim] at he
  | true =>
    simp only [hlim, cond_true, Option.some.injEq] at he
    subst he
    have hlim := of_decide_eq_true hlim
    have hpos : 0 < size t := by
      obtain ⟨E, _, hE⟩ := (hf.ty T _ hT).under
      exact (hf.ty E t hE).pos
    have h1 := Laid_one hnew hnl hpos (fun i e c h v hv => by
      cases hdp : dp' with
      | true => exact DRep_one _ _ _ _ (h.1 hdp) v hv
      | false => exact Rep_one _ _ _ (h.2 hdp) v hv)
    obtain ⟨v', w', hrun, hout⟩ := append_core hf hI hl hT o.type hbase hsrc h1 hlim hnl hnd (fun k hk => by
      rcases List.mem_append.1 hk with hk | hk
      · exact hus k hk
      · exact hta k hk) hfs hG2 hG2d hnew hold hd
    obtain ⟨cs, hb⟩ := builtin_exec (P := P) (w := w) o ρ _ _ _ ho
    refine Res_world (v := v') (w' := w') ?_ (Out.after (e := ⟨.ref d, (d, .row t dp' (n && ys.isEmpty) (bs ++ ys)) :: (((used ++ taken).map fun c => (c, Rg.gone)) ++ frozen gl fs)⟩) (Step'.refl hI) ?_ rfl hout)
    · rw [hb]
      simp [builtin, hrun]
    · subst hupd
      funext c
      simp only [updReg_cons, List.cons_append, updReg_append, updReg_gone, updReg_frozen, List.mem_append]
      have hnd1 := (List.nodup_append.1 hnd).2.2
      by_cases h1 : c = d
      · simp [h1]
      · by_cases h2 : c ∈ taken
        · simp [h1, h2]
        · by_cases h3 : c ∈ fs
          · have h4 : c ∉ used := fun h => hnd1 c (List.mem_append_left _ h) c h3 rfl
            simp [h1, h2, h3, h4]
          · by_cases h4 : c ∈ used <;> simp [h1, h2, h3, h4]

theorem view_sl {b : SV} {t : Ty} {y : Den (.sl t)} {l : List Nat} (h : view gl b = some (⟨.sl t, y⟩, l)) : b.cell = true := by
  cases b <;> simp [view, view0] at h ⊢ <;> try rfl
  · obtain ⟨⟨rfl, _⟩, _⟩ := h; rfl
  · split at h <;> simp at h
  · split at h <;> simp at h

theorem append_sound (hf : Fit P H) (hI : Inv w S hv F g) (hl : ∀ c r, gl c = some r → g c = some r) (o : Oper) (ρ : Operand → Value) (T U : Nat) (X Y : Operand) (ho : o.op = .call { callee := .builtin .append, args := #[X, Y], argTypes := #[T, U] }) {t : Ty} (hT : H.ty T = some (.sl t))
    {a b : SV} (hU : (∃ k k' n, H.ty U = some (.int k) ∧ b = .v (.int k') n) ∨ (U = T ∧ ∀ k n, b ≠ .v (.int k) n)) (ha : VR w S hv g a (ρ X)) (hb : VR w S hv g b (ρ Y)) {d : Nat} (hd : gl d = none → g d = none) {frz : Bool} {e : Eff} (he : (appendE gl d frz t a b).run = some e) :
    Res P ((execOp ρ o).run P w) (Out w S hv F g e) := by
  have hpos : 0 < size t ∧ plain t = true := by
    obtain ⟨E, _, hE⟩ := (hf.ty T _ hT).under
    exact ⟨(hf.ty E t hE).pos, (hf.ty E t hE).plain⟩
  obtain ⟨hpos, hpl⟩ := hpos
  have hfr := fresh_run he
  clear he
  obtain ⟨hgd, he⟩ := hfr
  replace hd := hd hgd
  rw [M.run_bind] at he
  cases hbo : (baseOf gl t a).run with
  | none => simp [hbo] at he
  | some r =>
    obtain ⟨n, bs, dp, used⟩ := r
    simp only [hbo, Option.bind_some] at he
    obtain ⟨hbase, hus, hused1⟩ := baseOf_sound hI hl ha hbo
    -- what is only read
    have hread : ∀ (y : Den (.sl t)) (S1 : Nat → Prop) (fs : List Nat), U = T → Rep w (fun b => S b ∨ FL F fs b) false (.sl t) y [ρ Y] → (∀ k ∈ fs, gl k ≠ none) → ∀ (fs' : List Nat) (dp' : Bool), (dp' = true → flat t = true) → (dp' = false → fs' = fs) → (fs' = fs ∨ fs' = []) → (fs' = [] ∨ (used ++ fs).Nodup) →
        (M.ite (decide (bs.length + y.2.length ≤ lim)) (.ret ⟨.ref d, (d, .row t dp' (n && y.2.isEmpty) (bs ++ y.2)) :: frozen gl fs' ++ used.map fun c => (c, Rg.gone)⟩) .fail : M Eff).run = some e → Res P ((execOp ρ o).run P w) (Out w S hv F g e) := by
      intro y _ fs hUT hR hfs fs' dp' h1 h2 h3 h5 he
      subst hUT
      obtain ⟨news, k1, k2, k3⟩ := Rep_src (P := P) (T := U) hpos hR
      refine append_fin hf hI hl o ρ U U X Y ho hT (taken := []) (fs := fs') (G2 := fun _ _ => False) hbase hus k1 k2 ?_ (by simp) ?_ (fun _ _ h => h.elim) (fun _ _ _ h => h.elim) ?_ (fun h => .inr (h1 h)) hd (by simp) he
      · rcases h3 with h3 | h3
        · rcases h5 with h5 | h5
          · rw [h5]; simpa using hused1
          · rw [h3]; simpa using h5
        · rw [h3]; simpa using hused1
      · rcases h3 with h3 | h3
        · rw [h3]; exact hfs
        · rw [h3]; simp
      · intro i e he
        obtain ⟨c, m1, m2, m3⟩ := k3 i e he
        refine ⟨c, m1, m2, fun h => Rep_flat_D _ _ _ (h1 h) m3, fun h => ?_⟩
        rw [h2 h]
        exact m3
    split at he
    · -- zeros
      rename_i k' m
      rcases hU with ⟨k, k2, n2, hU, hbb⟩ | ⟨_, hne⟩
      rotate_left
      · exact absurd rfl (hne _ _)
      simp only [M.run] at he
      cases h0 : decide (0 ≤ (m : Int)) with
      | false => simp [h0] at he
      | true =>
        cases h1 : decide ((m : Int) ≤ (lim : Int)) with
        | false => simp [h0, h1] at he
        | true =>
          simp only [h0, h1, cond_true] at he
          have h0 := of_decide_eq_true h0
          have h1 := of_decide_eq_true h1
          obtain ⟨m', rfl⟩ := Int.eq_ofNat_of_zero_le h0
          rw [VR_int] at hb
          have hm' : m' ≤ lim := Int.ofNat_le.1 h1
          have hu : P.underlying U = some (.int k) := (hf.ty U _ hU).under
          have hzs : (zcells t).toArray.size = size t := by simp [zcells_length]
          refine append_fin hf hI hl o ρ T U X Y ho hT (taken := []) (fs := []) (dp' := flat t && dp) (ys := List.replicate (Int.toNat (m' : Int)) (dflt t)) (news := (Builtin.zeroCells (zcells t).toArray m').toList) (G2 := fun _ _ => False) hbase hus
            (.inl ⟨k, k', hu, by simpa using hb.1, by simpa using hm', by simp⟩) (by simp [zeroCells_size, hzs]) (by simpa using hused1) (by simp) (by simp) (fun _ _ h => h.elim) (fun _ _ _ h => h.elim) ?_ (fun h => by simp at h; exact .inl h.2) hd (by simp [frozen]) he
          intro i e' he'
          obtain ⟨hi, rfl⟩ := getElem?_replicate_some he'
          refine ⟨zcells t, zcells_length t, ?_, fun _ => DRep_dflt _ t hpl, fun _ => Rep_dflt t hpl⟩
          intro j v hj
          have hjl : j < size t := by
            have := (List.getElem?_eq_some_iff.1 hj).1
            rwa [zcells_length] at this
          have hle : (i + 1) * size t ≤ m' * size t := Nat.mul_le_mul_right _ (show i + 1 ≤ m' by have : i < m' := (by simpa using hi); omega)
          rw [Nat.add_mul, Nat.one_mul] at hle
          have := zeroArr (zcells t).toArray (m' * size t) i j v (by simpa using hj) (by rw [hzs]; omega)
          rw [hzs] at this
          simpa [Builtin.zeroCells, hzs] using this
    · -- a row, or what is frozen
      rename_i c
      rcases hU with ⟨k, k2, n2, hU, hbb⟩ | ⟨hUT, hne⟩
      · cases hbb
      have hvc := ref_val hb
      subst hUT
      -- a row that is shown
      have hshow : ∀ (u : Ty) (dpe m : Bool) (ys : List (Den u)) (zs : List (Den t)), gl c = some (.row u dpe m ys) → castL u t ys = some zs → ∀ (fs' : List Nat) (dp' : Bool), (dp' = true → flat t = true) → (dp' = false → fs' = [c]) → (fs' = [c] ∨ fs' = []) → (fs' = [] ∨ (used ++ [c]).Nodup) →
          (M.ite (decide (bs.length + zs.length ≤ lim)) (.ret ⟨.ref d, (d, .row t dp' (n && zs.isEmpty) (bs ++ zs)) :: frozen gl fs' ++ used.map fun c => (c, Rg.gone)⟩) .fail : M Eff).run = some e → Res P ((execOp ρ o).run P w) (Out w S hv F g e) := by
        intro u dpe m ys zs hgc hcast fs' dp' h1 h2 h3 h5 he
        have := castL_spec hcast
        simp only [Sigma.mk.injEq] at this
        obtain ⟨rfl, hh⟩ := this
        have := eq_of_heq hh
        subst this
        have hr := hI.rep c _ (hl _ _ hgc)
        simp only [GRep] at hr
        have hR := RowB_Rep (S' := fun b => S b ∨ FL F [c] b) (fun _ h => .inl h) (fun b h => .inr (by rw [FL_one]; exact h)) hr
        rw [← hvc] at hR
        exact hread (m, ys) S [c] rfl hR (by simp [hgc]) fs' dp' h1 h2 h3 h5 he
      have hnod : flat t = false → selfOk (flat t) c used = true → (used ++ [c]).Nodup := by
        intro hff h
        rw [hff] at h
        have := nodupB_spec (show nodupB (c :: used) = true from h)
        rw [List.nodup_cons] at this
        rw [List.nodup_append]
        exact ⟨this.2, by simp, fun x hx y hy => by simp at hy; subst hy; rintro rfl; exact this.1 hx⟩
      split at he
      · -- owned
        rename_i u dpe' m ys hgc hfrz
        split at he
        · -- taken in
          rename_i zs hcast hft hnd
          have := castL_spec hcast
          simp only [Sigma.mk.injEq] at this
          obtain ⟨rfl, hh⟩ := this
          have := eq_of_heq hh
          subst this
          have hr := hI.rep c _ (hl _ _ hgc)
          simp only [GRep] at hr
          obtain ⟨news, G, k1, k2, k3, k4, k5⟩ := RowB_src (P := P) (T := U) hr
          rw [← hvc] at k1
          refine append_fin hf hI hl o ρ U U X Y ho hT (taken := [c]) (fs := []) (dp' := true) (G2 := G) hbase hus k1 k2 (by simpa using hnod hft hnd) (by simp [hl _ _ hgc]) (by simp) (fun i b h => by rw [FL_one]; exact k3 i b h) k4 ?_ (fun _ => .inl rfl) hd (by simp [frozen]) he
          intro i e' he'
          obtain ⟨c', m1, m2, m3⟩ := k5 i e' he'
          exact ⟨c', m1, m2, fun _ => m3, fun h => by cases h⟩
        · rename_i zs hcast hft hnd
          exact hshow _ _ _ _ _ hgc hcast [] (flat t) (fun h => h) (fun h => by rw [hft] at h; cases h) (.inr rfl) (.inl rfl) (by simpa [frozen] using he)
        · rename_i zs hcast hft hnd
          exact hshow _ _ _ _ _ hgc hcast [c] false (fun h => by cases h) (fun _ => rfl) (.inl rfl) (.inr (hnod (by first | exact hft | (cases hq : flat t with | true => exact absurd hq hft | false => rfl)) hnd)) he
        · simp [M.run] at he
      · -- shown
        rename_i u dpe m ys hgc _
        split at he
        rotate_left
        · simp [M.run] at he
        rename_i zs hcast hnd
        split at he
        · rename_i hft
          exact hshow _ _ _ _ _ hgc hcast [] true (fun _ => hft) (fun h => by cases h) (.inr rfl) (.inl rfl) (by simpa [frozen] using he)
        · rename_i hft
          exact hshow _ _ _ _ _ hgc hcast [c] false (fun h => by cases h) (fun _ => rfl) (.inl rfl) (.inr (hnod (by first | exact hft | (cases hq : flat t with | true => exact absurd hq hft | false => rfl)) hnd)) he
      · -- frozen
        rename_i ww x hgc
        split at he
        rotate_left
        · simp [M.run] at he
        rename_i y hy
        have := cast_spec hy
        simp only [Sigma.mk.injEq] at this
        obtain ⟨rfl, hh⟩ := this
        have := eq_of_heq hh
        subst this
        have hr := hI.rep c _ (hl _ _ hgc)
        simp only [GRep] at hr
        have hR : Rep w (fun b => S b ∨ FL F [] b) false (.sl t) x [ρ Y] := by
          rw [hvc]
          exact Rep_mono (fun _ _ _ _ h => h) (fun _ h => .inl h) _ _ _ _ hr.2
        exact hread x S [] rfl hR (by simp) [] (flat t) (fun h => h) (fun _ => rfl) (.inl rfl) (.inl rfl) (by simpa [frozen] using he)
      · simp [M.run] at he
    · -- nil
      rcases hU with ⟨k, k2, n2, hU, hbb⟩ | ⟨hUT, hne⟩
      · cases hbb
      subst hUT
      rw [VR_cell rfl] at hb
      simp only [CRep, List.cons.injEq, and_true] at hb
      refine append_fin hf hI hl o ρ U U X Y ho hT (taken := []) (fs := []) (dp' := dp) (ys := []) (news := []) (G2 := fun _ _ => False) hbase hus (.inr ⟨rfl, .inl ⟨_, hb, rfl, rfl⟩⟩) (by simp) (by simpa using hused1) (by simp) (by simp) (fun _ _ h => h.elim) (fun _ _ _ h => h.elim) (fun i e' he' => by simp at he') (fun h => .inl h) hd (upd := []) (by simp [frozen]) he
    · -- seen
      rename_i hn1 hn2 hn3
      rcases hU with ⟨k, k2, n2, hU, hbb⟩ | ⟨hUT, hne⟩
      · exact absurd hbb (hn1 _ _)
      subst hUT
      split at he
      rotate_left
      · simp [M.run] at he
      rename_i e' l hview
      split at he
      rotate_left
      · simp [M.run] at he
      rename_i y hy hnd
      have hdy := D_to hy
      subst hdy
      rw [VR_cell (view_sl hview)] at hb
      have hR := view_sound (S' := fun b' => S b' ∨ FL F l b') hI hl b _ l _ hview (fun _ h => .inl h) (fun _ h => .inr h) hb
      have hnd' : (used ++ l).Nodup := by
        have := nodupB_spec hnd
        rw [List.nodup_append] at this ⊢
        exact ⟨this.2.1, this.1, fun x hx y hy h => this.2.2 y hy x hx h.symm⟩
      have hfs := view_regs _ _ _ hview
      split at he
      · rename_i hft
        exact hread y S l rfl hR hfs [] true (fun _ => hft) (fun h => by cases h) (.inr rfl) (.inl rfl) (by simpa [frozen] using he)
      · rename_i hft
        exact hread y S l rfl hR hfs l false (fun h => by cases h) (fun _ => rfl) (.inl rfl) (.inr hnd') he
end
end Go.Rf

namespace Go.Rf

section
variable {P : Program} {H : Hints} {w w' : World} {S : Nat → Prop} {hv : Nat → Value} {F : Nat → Nat → Prop} {g gl gm : Look}

/-- some elements of a row are written over -/
theorem splice_step (hI : Inv w S hv F g) {c : Nat} {t : Ty} {dp n : Bool} {xs ks : List (Den t)} {lo : Nat} {news : List Value} (hc : g c = some (.row t dp n xs)) (hft : flat t = true) {b o cap : Nat} (hv' : hv c = .slice (some ⟨b, o, none⟩) xs.length cap)
    (hfit : lo + ks.length ≤ xs.length) (hnl : news.length = ks.length * size t) (hnew : Laid (fun _ e c => DRep w t e (fun _ => False) c) news ks) :
    ∃ arr T, w.heap[b]? = some (.cells arr T (0, 0)) ∧ o + lo * size t + news.length ≤ arr.size ∧ ∃ S' hv' F', Step' w S hv F g (w.setRow b (seg arr (o + lo * size t) news)) S' hv' F' (updReg g [(c, .row t dp n (xs.take lo ++ (ks ++ xs.drop (lo + ks.length))))]) := by
  have hr := hI.rep c _ hc
  simp only [GRep] at hr
  rcases hr with ⟨_, _, h3⟩ | ⟨h0, b', o', cap', arr, T, G, h1, h2, h3, h4, h5, h6, h7, h8, h9⟩
  · rw [hv'] at h3; cases h3
  rw [hv'] at h1
  cases h1
  have hle : (lo + ks.length) * size t ≤ cap * size t := Nat.mul_le_mul_right _ (by omega)
  rw [Nat.add_mul] at hle
  have hfit2 : o + lo * size t + news.length ≤ arr.size := by omega
  have hw := setRow_heap w b arr (seg arr (o + lo * size t) news) T _ h4
  refine ⟨arr, T, h4, hfit2, ?_⟩
  have hu : updReg g [(c, Rg.row t dp n (xs.take lo ++ (ks ++ xs.drop (lo + ks.length))))] = reLook g g c (.row t dp n (xs.take lo ++ (ks ++ xs.drop (lo + ks.length)))) [] [] := by
    have := updReg_re g g c (.row t dp n (xs.take lo ++ (ks ++ xs.drop (lo + ks.length)))) [] []
    simpa [frozen] using this
  have hlen : (xs.take lo ++ (ks ++ xs.drop (lo + ks.length))).length = xs.length := by simp; omega
  rw [hu]
  refine ⟨_, _, _, re_step (w' := w.setRow b (seg arr (o + lo * size t) news)) (r := .row t dp n (xs.take lo ++ (ks ++ xs.drop (lo + ks.length)))) (v := hv c) (gs := []) (fs := []) (Fd := F c) (Q := fun _ => False) (gl := g) (d := c) hI (fun _ _ h => h) (fun _ => rfl) ?_ (.inl rfl) (by simp) (by simp) (by simp) (by simp) (by simp)
    (by rw [setRow_size]; exact Nat.le_refl _) (fun b' hb hn => setRow_other _ _ _ _ (fun h => hn ⟨c, by simp, h ▸ h6⟩)) (fun b' hb => ⟨.inl ⟨c, by simp, hb⟩, by rw [setRow_size]; exact hI.old c b' hb⟩) (fun _ h => h.elim) ?_⟩
  · intro m _ hm
    simp only [Rg.len, hlen, Option.some.injEq] at hm
    simp [glen, hc, Rg.len, hm]
  · intro hx
    simp only [GRep, if_true]
    have hE : ∀ e G c', DRep w t e G c' → ERep (w.setRow b (seg arr (o + lo * size t) news)) (fun b' => S b' ∨ FL F [] b' ∨ False) dp t e G c' := by
      intro e G c' h
      cases dp with
      | true => exact DRep_flat _ _ _ hft h
      | false => exact DRep_Rep _ _ (fun _ => False) _ (fun _ h => h.elim) (DRep_flat _ _ _ hft h)
    refine .inr ⟨h0, b, o, cap, _, T, G, by rw [hv', hlen], by rw [hlen]; exact h2, by rw [hlen]; exact h3, hw, by rw [seg_size hfit2]; exact h5, h6, h7, h8, ?_⟩
    intro i e he
    have hDold : ∀ i e, xs[i]? = some e → ∃ c', c'.length = size t ∧ rd w b (o + i * size t) c' ∧ DRep w t e (G i) c' := by
      intro i e he
      obtain ⟨c', m1, m2, m3⟩ := h9 i e he
      refine ⟨c', m1, m2, ?_⟩
      cases dp with
      | true => exact m3
      | false => exact Rep_flat_D _ _ _ hft m3
    by_cases hi1 : i < lo
    · rw [List.getElem?_append_left (by simp; omega), List.getElem?_take_of_lt hi1] at he
      obtain ⟨c', m1, m2, m3⟩ := hDold i e he
      refine ⟨c', m1, ?_, hE _ _ _ m3⟩
      rw [rd_iff hw]
      rw [rd_iff h4] at m2
      intro j u hj
      have hjl := (List.getElem?_eq_some_iff.1 hj).1
      have hle2 : (i + 1) * size t ≤ lo * size t := Nat.mul_le_mul_right _ hi1
      rw [Nat.add_mul, Nat.one_mul] at hle2
      rw [seg_out hfit2 (.inl (by omega))]
      exact m2 j u hj
    · have htl : (xs.take lo).length = lo := by simp; omega
      rw [List.getElem?_append_right (by omega), htl] at he
      by_cases hi2 : i - lo < ks.length
      · rw [List.getElem?_append_left hi2] at he
        obtain ⟨c', m1, m2, m3⟩ := hnew _ e he
        refine ⟨c', m1, ?_, hE _ _ _ (DRep_flat _ _ _ hft m3)⟩
        rw [rd_iff hw]
        intro j u hj
        have hjl := (List.getElem?_eq_some_iff.1 hj).1
        have hm := m2 j u hj
        have hml := (List.getElem?_eq_some_iff.1 hm).1
        rw [← hm, ← seg_in hfit2 hml]
        congr 1
        have : i * size t = lo * size t + (i - lo) * size t := by rw [← Nat.add_mul]; congr 1; omega
        omega
      · rw [List.getElem?_append_right (by omega), List.getElem?_drop] at he
        have hii : lo + ks.length + (i - lo - ks.length) = i := by omega
        rw [hii] at he
        obtain ⟨c', m1, m2, m3⟩ := hDold i e he
        refine ⟨c', m1, ?_, hE _ _ _ m3⟩
        rw [rd_iff hw]
        rw [rd_iff h4] at m2
        intro j u hj
        have hle2 : (lo + ks.length) * size t ≤ i * size t := Nat.mul_le_mul_right _ (by omega)
        rw [Nat.add_mul] at hle2
        rw [seg_out hfit2 (.inr (by omega))]
        exact m2 j u hj

theorem zeros_laid {t : Ty} (hp : plain t = true) (m : Nat) : Laid (fun _ e c => DRep w t e (fun _ => False) c) (Builtin.zeroCells (zcells t).toArray m).toList (List.replicate m (dflt t)) := by
  have hzs : (zcells t).toArray.size = size t := by simp [zcells_length]
  intro i e he
  obtain ⟨hi, rfl⟩ := getElem?_replicate_some he
  refine ⟨zcells t, zcells_length t, ?_, DRep_dflt _ t hp⟩
  intro j v hj
  have hjl : j < size t := by
    have := (List.getElem?_eq_some_iff.1 hj).1
    rwa [zcells_length] at this
  have hle : (i + 1) * size t ≤ m * size t := Nat.mul_le_mul_right _ hi
  rw [Nat.add_mul, Nat.one_mul] at hle
  have := zeroArr (zcells t).toArray (m * size t) i j v (by simpa using hj) (by rw [hzs]; omega)
  rw [hzs] at this
  simpa [Builtin.zeroCells, hzs] using this

/-- nothing is written -/
theorem splice_none (hI : Inv w S hv F g) {c : Nat} {r : Rg} {v : Value} {a : SV} (hc : g c = some r) (ha : VR w S hv g a v) : Out w S hv F g ⟨a, [(c, r)]⟩ v w := by
  have hu : updReg g [(c, r)] = g := by
    funext k
    rw [updReg_cons, updReg_nil]
    split
    · rename_i h; rw [h, hc]
    · rfl
  exact Out.mk hu (Step'.refl hI) ha

theorem SubV_at {c sz lo hi : Nat} {v : Value} {n : Bool} {k : Nat} (hh : Hdr n k (hv c)) (h : SubV (hv c) sz lo hi v) (hne : lo < hi) : ∃ b o cap, hv c = .slice (some ⟨b, o, none⟩) k cap ∧ v = .slice (some ⟨b, o + lo * sz, none⟩) (hi - lo) (cap - lo) := by
  rcases h with ⟨_, _, rfl, rfl⟩ | ⟨b, o, n', cap, o', h1, h2, h3, h4, h5, h6, h7, h8⟩
  · omega
  · have hn : n' = k := by
      rcases hh with ⟨_, _, h⟩ | ⟨_, _, b2, o2, cap2, h, _⟩
      · rw [h1] at h; cases h
      · rw [h1] at h; cases h; rfl
    subst hn
    exact ⟨b, o, cap, h1, by rw [h2, h7 (by omega)]⟩

theorem clear_sound (hf : Fit P H) (hI : Inv w S hv F g) (o : Oper) (ρ : Operand → Value) (T : Nat) (X : Operand) (ho : o.op = .call { callee := .builtin .clear, args := #[X], argTypes := #[T] }) {t : Ty} (hT : H.ty T = some (.sl t)) {c lo hi : Nat} {dp n : Bool} {xs : List (Den t)} (hc : g c = some (.row t dp n xs)) (hft : flat t = true)
    (hx : VR w S hv g (.sub c (size t) lo hi) (ρ X)) : Res P ((execOp ρ o).run P w) (Out w S hv F g ⟨.unit, [(c, .row t dp n (xs.take lo ++ (List.replicate (hi - lo) (dflt t) ++ xs.drop hi)))]⟩) := by
  obtain ⟨E, hu, hE⟩ := (hf.ty T _ hT).under
  have hft' := hf.ty E t hE
  obtain ⟨i, z0, h3, h4, h5, h6, h7, _⟩ := hft'.info
  have hz0 : z0.cells = (zcells t).toArray := by apply Array.ext'; simpa using h7
  rw [VR_cell rfl] at hx
  simp only [CRep, List.cons.injEq, and_true] at hx
  obtain ⟨_, v', hv0, hs⟩ := hx
  have hh := hdr_row hI hc
  obtain ⟨hhi, _⟩ := SubV_le hh hs
  obtain ⟨cs, hb⟩ := builtin_exec (P := P) (w := w) o ρ _ _ _ ho
  obtain ⟨a0, cap0, hlen, hlohi⟩ := SubV_len hs
  by_cases hne : lo < hi
  · obtain ⟨b, off, cap, e1, e2⟩ := SubV_at hh hs hne
    have hnl : (Builtin.zeroCells (zcells t).toArray (hi - lo)).toList.length = (List.replicate (hi - lo) (dflt t)).length * size t := by simp [zeroCells_size, zcells_length]
    have hlaid := zeros_laid (w := w) hft'.plain (hi - lo)
    obtain ⟨arr, V, k1, k2, S', hv2, F', k3⟩ := splice_step hI hc hft e1 (lo := lo) (by simp; omega) hnl hlaid
    have h1 := Laid_one hlaid hnl hft'.pos (fun i e c h v hv => DRep_one _ _ _ _ h v hv)
    have hst := run_storeCells_at P b (off + lo * size t) V (Builtin.zeroCells (zcells t).toArray (hi - lo)).toList 0 arr w k1 (by simpa using k2) h1
    simp only [Nat.add_zero] at hst
    refine Res_world (v := .tuple #[]) (w' := w.setRow b (seg arr (off + lo * size t) (Builtin.zeroCells (zcells t).toArray (hi - lo)).toList)) ?_ ⟨S', hv2, F', ?_, rfl⟩
    · rw [hb]
      have hk : hi - lo ≠ 0 := by omega
      have hcl : (Builtin.clear_ #[T] o.type #[.slice (some ⟨b, off + lo * size t, none⟩) (hi - lo) (cap - lo)]).run P w = .ok (.tuple #[]) (w.setRow b (seg arr (off + lo * size t) (Builtin.zeroCells (zcells t).toArray (hi - lo)).toList)) := by
        obtain ⟨k', hk'⟩ := Nat.exists_eq_succ_of_ne_zero hk
        simp only [hk'] at hst ⊢
        simp [Builtin.clear_, run_underlying hu, zeroValue, typeInfo, h3, h6, hz0, hst, seg]
      simp [builtin, hv0, e2, hcl]
    · have : lo + (List.replicate (hi - lo) (dflt t)).length = hi := by simp; omega
      rw [this] at k3
      exact k3
  · have hll : lo = hi := by omega
    subst hll
    have hxs : xs.take lo ++ (List.replicate (lo - lo) (dflt t) ++ xs.drop lo) = xs := by simp
    rw [hxs]
    refine Res_world (v := .tuple #[]) (w' := w) ?_ (splice_none hI hc rfl)
    rw [hb]
    simp only [Nat.sub_self] at hlen
    have : (Builtin.clear_ #[T] o.type #[.slice a0 0 cap0]).run P w = .ok (.tuple #[]) w := by
      cases a0 <;> simp [Builtin.clear_, run_underlying hu]
    simp [builtin, hv0, hlen, this]
end
end Go.Rf

namespace Go.Rf

section
variable {P : Program} {H : Hints} {w w' : World} {S : Nat → Prop} {hv : Nat → Value} {F : Nat → Nat → Prop} {g gl gm : Look}

theorem rd_take {b o k : Nat} {cs : List Value} (h : rd w b o cs) : rd w b o (cs.take k) := fun j v hj => by
  rw [List.getElem?_take] at hj
  split at hj
  · exact h j v hj
  · cases hj

theorem copy_core (hf : Fit P H) (hI : Inv w S hv F g) (o : Oper) (ρ : Operand → Value) (T U : Nat) (X Y : Operand) (ho : o.op = .call { callee := .builtin .copy, args := #[X, Y], argTypes := #[T, U] }) {t : Ty} (hT : H.ty T = some (.sl t)) {c lo hi : Nat} {dp n : Bool} {xs : List (Den t)} (hc : g c = some (.row t dp n xs)) (hft : flat t = true)
    (hs : SubV (hv c) (size t) lo hi (ρ X)) {S1 : Nat → Prop} {y : Den (.sl t)} (hy : Rep w S1 false (.sl t) y [ρ Y]) :
    Res P ((execOp ρ o).run P w) (Out w S hv F g ⟨.v (.int .i64) ((min y.2.length (hi - lo) : Nat) : Int), [(c, .row t dp n (xs.take lo ++ (y.2.take (hi - lo) ++ xs.drop (lo + min y.2.length (hi - lo)))))]⟩) := by
  obtain ⟨E, hu, hE⟩ := (hf.ty T _ hT).under
  have hft' := hf.ty E t hE
  obtain ⟨i, z0, h3, h4, h5, h6, h7, _⟩ := hft'.info
  obtain ⟨cs, hb⟩ := builtin_exec (P := P) (w := w) o ρ _ _ _ ho
  have hh := hdr_row hI hc
  obtain ⟨hhi, hbig⟩ := SubV_le hh hs
  obtain ⟨a0, cap0, hlen, hlohi⟩ := SubV_len hs
  obtain ⟨news, h8, h9, h10⟩ := Rep_src (P := P) (T := T) hft'.pos hy
  have hsrc : (∃ A, ρ Y = .slice A 0 0 ∧ y.2.length = 0 ∧ news = []) ∨ ∃ b o cap, ρ Y = .slice (some ⟨b, o, none⟩) y.2.length cap ∧ rd w b o news := by
    rcases h8 with ⟨k, _, hk, _⟩ | ⟨_, h8 | ⟨b, o, cap, h8, _, h11⟩⟩
    · rw [hu] at hk; cases hk
    · exact .inl h8
    · exact .inr ⟨b, o, cap, h8, h11⟩
  have hk0 : min y.2.length (hi - lo) ≤ big := by omega
  by_cases hk : min y.2.length (hi - lo) = 0
  · have hxs : xs.take lo ++ (y.2.take (hi - lo) ++ xs.drop (lo + min y.2.length (hi - lo))) = xs := by
      have : y.2.take (hi - lo) = [] := by
        apply List.eq_nil_of_length_eq_zero
        rw [List.length_take]
        omega
      rw [this, hk]
      simp
    rw [hxs]
    refine Res_world (v := .int .i64 ((min y.2.length (hi - lo) : Nat) : Int)) (w' := w) ?_ (splice_none hI hc (VR_int.2 ⟨rfl, int64_in hk0⟩))
    rw [hb]
    have hcp : (Builtin.copy_ #[T, U] o.type #[ρ X, ρ Y]).run P w = .ok (goInt 0) w := by
      have hk' : Nat.min y.2.length (hi - lo) = 0 := hk
      rcases hsrc with ⟨A, k1, k2, _⟩ | ⟨b, off, cap, k1, _⟩
      · rw [hlen, k1]
        cases A <;> cases a0 <;> simp [Builtin.copy_, run_underlying hu, Builtin.lenOf, Builtin.firstCells, sizeOf, typeInfo, h3, storeCells, loadCells, loadCellsFrom]
      · rw [hlen, k1]
        cases a0 <;> simp [Builtin.copy_, run_underlying hu, Builtin.lenOf, Builtin.firstCells, sizeOf, typeInfo, h3, hk', storeCells, loadCells, loadCellsFrom]
    rw [hk]
    simp [builtin, hcp, goInt]
  · have hne : lo < hi := by omega
    obtain ⟨b, off, cap, e1, e2⟩ := SubV_at hh hs hne
    rcases hsrc with ⟨A, k1, k2, _⟩ | ⟨b2, off2, cap2, k1, k3⟩
    · omega
    have hks : (y.2.take (hi - lo)).length = min y.2.length (hi - lo) := by rw [List.length_take]; omega
    have hnl : (news.take (min y.2.length (hi - lo) * size t)).length = (y.2.take (hi - lo)).length * size t := by
      rw [hks, List.length_take, h9]
      have : min y.2.length (hi - lo) * size t ≤ y.2.length * size t := Nat.mul_le_mul_right _ (by omega)
      omega
    have hlaid : Laid (fun _ e c => DRep w t e (fun _ => False) c) (news.take (min y.2.length (hi - lo) * size t)) (y.2.take (hi - lo)) := by
      intro i e he
      have hil := (List.getElem?_eq_some_iff.1 he).1
      rw [hks] at hil
      rw [List.getElem?_take_of_lt (by omega)] at he
      obtain ⟨c', m1, m2, m3⟩ := h10 i e he
      refine ⟨c', m1, ?_, Rep_flat_D _ _ _ hft m3⟩
      intro j u hj
      have hjl := (List.getElem?_eq_some_iff.1 hj).1
      have hle : (i + 1) * size t ≤ min y.2.length (hi - lo) * size t := Nat.mul_le_mul_right _ hil
      rw [Nat.add_mul, Nat.one_mul] at hle
      rw [List.getElem?_take_of_lt (by omega)]
      exact m2 j u hj
    obtain ⟨arr, V, q1, q2, S', hv2, F', q3⟩ := splice_step hI hc hft e1 (lo := lo) (by rw [hks]; omega) hnl hlaid
    have h1 := Laid_one hlaid hnl hft'.pos (fun i e c h v hv => DRep_one _ _ _ _ h v hv)
    have hst := run_storeCells_at P b (off + lo * size t) V (news.take (min y.2.length (hi - lo) * size t)) 0 arr w q1 (by simpa using q2) h1
    simp only [Nat.add_zero] at hst
    have hld : (Builtin.firstCells (size t) (Nat.min y.2.length (hi - lo)) (.slice (some ⟨b2, off2, none⟩) y.2.length cap2)).run P w = .ok (news.take (min y.2.length (hi - lo) * size t)).toArray w :=
      run_firstCells_some (P := P) w (size t) _ ⟨b2, off2, none⟩ _ cap2 _ (by rw [hnl, hks]) (rd_add (rd_take k3))
    refine Res_world (v := .int .i64 ((min y.2.length (hi - lo) : Nat) : Int)) (w' := w.setRow b (seg arr (off + lo * size t) (news.take (min y.2.length (hi - lo) * size t)))) ?_ ⟨S', hv2, F', ?_, VR_int.2 ⟨rfl, int64_in hk0⟩⟩
    · rw [hb]
      have hcp : (Builtin.copy_ #[T, U] o.type #[ρ X, ρ Y]).run P w = .ok (goInt (min y.2.length (hi - lo))) (w.setRow b (seg arr (off + lo * size t) (news.take (min y.2.length (hi - lo) * size t)))) := by
        rw [e2, k1]
        generalize hkk : (min y.2.length (hi - lo)) = kk at hst hld ⊢
        have hkk' : Nat.min y.2.length (hi - lo) = kk := hkk
        rw [hkk'] at hld
        simp [Builtin.copy_, run_underlying hu, Builtin.lenOf, sizeOf, typeInfo, h3, h4, hkk', hld, hst, seg]
        congr 1
        omega
      simp [builtin, hcp, goInt]
      omega
    · rw [hks] at q3
      exact q3

theorem RowB_whole {t : Ty} {E : Den t → (Nat → Prop) → List Value → Prop} {n : Bool} {xs : List (Den t)} {Fc : Nat → Prop} {v : Value} (h : RowB w E (size t) n xs Fc v) : SubV v (size t) 0 xs.length v := by
  rcases h with ⟨h1, h2, h3⟩ | ⟨h0, b, o, cap, arr, T, G, h1, h2, h3, h4, h5, h6, h7, h8, h9⟩
  · exact .inl ⟨h3, h3, rfl, by simp [h2]⟩
  · exact .inr ⟨b, o, xs.length, cap, o, h1, by simpa using h1, Nat.zero_le _, Nat.le_refl _, h2, h3, by simp, by simp⟩

/-! ### the least and the greatest -/
theorem minmax_sound {mx : Bool} {k : IntKind} : ∀ (l : List SV) (vs : List Value) (x : Int) (a : SV), minmax mx k x l = some a → All2 (fun a v => VR w S hv g a v) l vs → (k.min ≤ x ∧ x ≤ k.max) →
    ∃ m : Int, a = .v (.int k) m ∧ (k.min ≤ m ∧ m ≤ k.max) ∧ (vs.foldlM (m := Sem) (if mx then Builtin.max2 else Builtin.min2) (.int k x)).run P w = .ok (.int k m) w
  | [], vs, x, a, h, h2, hx => by
    cases h2
    simp only [minmax, Option.some.injEq] at h
    exact ⟨x, h.symm, hx, by simp⟩
  | b :: l, v :: vs, x, a, h, .cons h1 h2, hx => by
    have hform : ∃ y, b = .v (.int k) y ∧ minmax mx k (if mx = true then (bif decide ((x : Int) < y) then y else x) else (bif decide ((y : Int) < x) then y else x)) l = some a := by
      cases b <;> try (simp [minmax] at h; done)
      rename_i t y
      cases t <;> try (simp [minmax] at h; done)
      rename_i k'
      simp only [minmax] at h
      split at h <;> try (cases h; done)
      rename_i hk
      have hk : k = k' := of_decide_eq_true hk
      subst hk
      refine ⟨y, rfl, ?_⟩
      cases mx <;> exact h
    clear h
    obtain ⟨y, rfl, h⟩ := hform
    rw [VR_int] at h1
    obtain ⟨rfl, hy⟩ := h1
    cases mx with
    | true =>
      simp only [if_true] at h
      have hz : (Builtin.max2 (.int k x) (.int k y)).run P w = .ok (.int k (bif decide (x < y) then y else x)) w := by
        by_cases h : x < y <;> simp [Builtin.max2, h]
      obtain ⟨m, e1, e2, e3⟩ := minmax_sound l vs _ a h h2 (by cases hd : decide (x < y) <;> simp [hx, hy])
      refine ⟨m, e1, e2, ?_⟩
      simp only [if_true] at e3 ⊢
      simp only [List.foldlM_cons, Sem.run_bind, hz, Result.andThen_ok]
      exact e3
    | false =>
      simp only [Bool.false_eq_true, if_false] at h
      have hz : (Builtin.min2 (.int k x) (.int k y)).run P w = .ok (.int k (bif decide (y < x) then y else x)) w := by
        by_cases h : y < x <;> simp [Builtin.min2, h]
      obtain ⟨m, e1, e2, e3⟩ := minmax_sound l vs _ a h h2 (by cases hd : decide (y < x) <;> simp [hx, hy])
      refine ⟨m, e1, e2, ?_⟩
      simp only [Bool.false_eq_true, if_false] at e3 ⊢
      simp only [List.foldlM_cons, Sem.run_bind, hz, Result.andThen_ok]
      exact e3
end
end Go.Rf

namespace Go.Rf

section
variable {P : Program} {H : Hints} {w w' : World} {S : Nat → Prop} {hv : Nat → Value} {F : Nat → Nat → Prop} {g gl gm : Look}

def EqAt (P : Program) (H : Hints) (w : World) (S : Nat → Prop) (t : Ty) : Prop :=
  ∀ (T d : Nat) (X Y : Den t) (cx cy : List Value) (x y : Value) (b : Bool), H.ty T = some t → nodes t < d → Rep w S false t X cx → Rep w S false t Y cy → Pk (isAgg t) cx x → Pk (isAgg t) cy y → eqD t X Y = some b → (Op.equalIn d T x y).run P w = .ok b w

theorem eqField (hf : Fit P H) {a : Ty} (hq : EqAt P H w S a) {d : Nat} (hd : nodes a < d) {f : Field} {off : Nat} {X Y : Den a} {cx cy x1 x2 y1 y2 : List Value} {b : Bool} (ho : f.offset = off) (hT : H.ty f.type = some a) (hn : (f.name == "_") = false)
    (hx : Rep w S false a X cx) (hy : Rep w S false a Y cy) (h1 : x1.length = off) (h2 : y1.length = off) (he : eqD a X Y = some b) (fs : List Field) :
    (Op.eqFields d (x1 ++ (cx ++ x2)).toArray (y1 ++ (cy ++ y2)).toArray (f :: fs)).run P w = if b = true then (Op.eqFields d (x1 ++ (cx ++ x2)).toArray (y1 ++ (cy ++ y2)).toArray fs).run P w else .ok false w := by
  obtain ⟨v1, k1, k2⟩ := run_part (w := w) hf hT (c1 := x1) (c3 := x2) (Rep_length _ _ _ hx)
  obtain ⟨v2, k3, k4⟩ := run_part (w := w) hf hT (c1 := y1) (c3 := y2) (Rep_length _ _ _ hy)
  have he := hq f.type d X Y cx cy v1 v2 b hT hd hx hy k2 k4 he
  rw [h1] at k1
  rw [h2] at k3
  have hn' : f.name ≠ "_" := by simpa using hn
  rw [← ho] at k1 k3
  simp only [Op.eqFields, hn', ne_eq, not_false_eq_true, if_true, Sem.run_bind, k1, k3, he, Result.andThen_ok]
  cases b <;> simp

theorem eqFields_sound (hf : Fit P H) {m : Nat} (IH : ∀ t, nodes t < m → EqAt P H w S t) : ∀ (fs : List Field) (t : Ty) (off : Nat) (d : Nat) (X Y : Den t) (cx cy x1 x2 y1 y2 : List Value) (b : Bool), nodes t ≤ m → nodes t ≤ d → fs ≠ [] →
    (∀ i f, fs[i]? = some f → ∃ q u, fpath t fs.length i = some (q, u) ∧ f.offset = off + pathOff q ∧ H.ty f.type = some u ∧ (f.name == "_") = false) →
    Rep w S false t X cx → Rep w S false t Y cy → x1.length = off → y1.length = off → eqD t X Y = some b → (Op.eqFields d (x1 ++ (cx ++ x2)).toArray (y1 ++ (cy ++ y2)).toArray fs).run P w = .ok b w
  | [], t, off, d, X, Y, cx, cy, x1, x2, y1, y2, b, _, _, h, _, _, _, _, _, _ => absurd rfl h
  | [f], t, off, d, X, Y, cx, cy, x1, x2, y1, y2, b, hm, hd, _, hfs, hx, hy, h1, h2, he => by
    obtain ⟨q, u, k1, k2, k3, k4⟩ := hfs 0 f rfl
    cases t <;> simp [fpath] at k1
    rename_i a
    obtain ⟨rfl, rfl⟩ := k1
    simp only [Rep] at hx hy
    simp only [eqD] at he
    simp only [nodes] at hm hd
    rw [eqField hf (IH a (by omega)) (d := d) (by omega) (by simpa [pathOff, Step.off] using k2) k3 k4 hx hy h1 h2 he []]
    cases b <;> simp [Op.eqFields]
  | f :: f2 :: fs, t, off, d, X, Y, cx, cy, x1, x2, y1, y2, b, hm, hd, _, hfs, hx, hy, h1, h2, he => by
    obtain ⟨q, u, k1, k2, k3, k4⟩ := hfs 0 f rfl
    cases t <;> simp [fpath] at k1
    rename_i a a2
    obtain ⟨rfl, rfl⟩ := k1
    simp only [Rep] at hx hy
    obtain ⟨ca, cb, rfl, hxa, hxb⟩ := hx
    obtain ⟨da, db, rfl, hya, hyb⟩ := hy
    simp only [nodes] at hm hd
    simp only [eqD] at he
    split at he <;> try (cases he; done)
    rename_i p r hp hr
    simp only [Option.some.injEq] at he
    subst he
    have e1 : ∀ (z1 za zb z2 : List Value), z1 ++ (za ++ zb ++ z2) = z1 ++ (za ++ (zb ++ z2)) := fun _ _ _ _ => by simp
    have e2 : ∀ (z1 za zb z2 : List Value), z1 ++ (za ++ (zb ++ z2)) = (z1 ++ za) ++ (zb ++ z2) := fun _ _ _ _ => by simp
    rw [e1, e1, eqField hf (IH a (by omega)) (d := d) (by omega) (by simpa [pathOff, Step.off] using k2) k3 k4 hxa hya h1 h2 hp (f2 :: fs)]
    cases p with
    | false => simp
    | true =>
      simp only [if_true, Bool.true_and]
      rw [e2, e2]
      have hla : (x1 ++ ca).length = off + size a := by simp [h1, Rep_length _ _ _ hxa]
      have hlb : (y1 ++ da).length = off + size a := by simp [h2, Rep_length _ _ _ hya]
      cases fs with
      | nil =>
        obtain ⟨q, u, k1, k2, k3, k4⟩ := hfs 1 f2 rfl
        simp [fpath] at k1
        obtain ⟨rfl, rfl⟩ := k1
        rw [eqField hf (IH a2 (by omega)) (d := d) (by omega) (by simpa [pathOff, Step.off] using k2) k3 k4 hxb hyb hla hlb hr []]
        cases r <;> simp [Op.eqFields]
      | cons f3 fs =>
        refine eqFields_sound hf IH (f2 :: f3 :: fs) a2 (off + size a) d X.2 Y.2 cb db (x1 ++ ca) x2 (y1 ++ da) y2 r (by omega) (by omega) (by simp) ?_ hxb hyb hla hlb hr
        intro i f' hi
        obtain ⟨q, u, k1, k2, k3, k4⟩ := hfs (i + 1) f' (by simpa using hi)
        simp [fpath] at k1
        obtain ⟨q', h5, h6⟩ := k1
        refine ⟨q', u, by simpa using h5, ?_, k3, k4⟩
        rw [k2, ← h6]
        simp [pathOff, Step.off, Nat.add_assoc]

/-- an element of an array of two whole numbers -/
theorem part_arr {E : Nat} (hE : P.underlying E = some (.int .i64)) (cs : Array Value) (j : Nat) (v : Value) (h : cs[j]? = some v) : (part E cs j).run P w = .ok v w := by
  unfold part
  simp only [Sem.run_bind, run_isAgg hE, Result.andThen_ok, aggDesc, Bool.false_eq_true, if_false, h, Sem.run_pure]

theorem equal_arr {T : Nat} {t : Ty} (ha : AFit P H T t) (d : Nat) (n1 n2 m1 m2 : Int) : (Op.equalIn (d + 1 + 1) T (.agg #[.int .i64 n1, .int .i64 n2]) (.agg #[.int .i64 m1, .int .i64 m2])).run P w = .ok ((n1 == m1) && (n2 == m2)) w := by
  obtain ⟨_, _, _, E, h1, h2, i, h3, h4⟩ := ha
  rw [run_equalIn_array w (d + 1) _ _ h1 h3]
  have hc : P.cellsOf E = 1 := by simp [Program.cellsOf, h3, h4]
  have e1 : ∀ (a b : Int), (Op.equalIn (d + 1) E (.int .i64 a) (.int .i64 b)).run P w = .ok (a == b) w := fun a b => by simp [Op.equalIn, run_underlying h2]
  have r2 : List.range 2 = [0, 1] := rfl
  have p1 := part_arr (w := w) h2 #[.int .i64 n1, .int .i64 n2] 0 (.int .i64 n1) rfl
  have p2 := part_arr (w := w) h2 #[.int .i64 m1, .int .i64 m2] 0 (.int .i64 m1) rfl
  have p3 := part_arr (w := w) h2 #[.int .i64 n1, .int .i64 n2] 1 (.int .i64 n2) rfl
  have p4 := part_arr (w := w) h2 #[.int .i64 m1, .int .i64 m2] 1 (.int .i64 m2) rfl
  simp only [hc, r2, Op.eqItems, Sem.run_bind, Nat.mul_one, p1, p2, e1, Result.andThen_ok]
  cases n1 == m1
  · simp
  · simp only [Bool.not_true, Bool.false_eq_true, if_false, Sem.run_bind, p3, p4, e1, Result.andThen_ok, Bool.true_and]
    cases n2 == m2 <;> simp

theorem equalIn_sound (hf : Fit P H) : ∀ (m : Nat) (t : Ty), nodes t < m → EqAt P H w S t
  | 0, t, h => by omega
  | m + 1, t, hm => by
    intro T d X Y cx cy x y b hT hd hx hy hpx hpy he
    have hft := hf.ty T t hT
    have hu := hft.under
    have hpos := hft.pos
    have hnt : 0 < nodes t := by cases t <;> simp [nodes]
    obtain ⟨d, rfl⟩ : ∃ d', d = d' + 1 := ⟨d - 1, by omega⟩
    have hstruct : isAgg t = true → (Op.equalIn (d + 1) T x y).run P w = .ok b w := by
      intro hag
      have hus : SFit P H T t ∨ AFit P H T t := by
        unfold UFit at hu
        cases t <;> simp [isAgg] at hag <;> exact hu
      rcases hus with hus | ha
      rotate_left
      · obtain ⟨_, ht, _⟩ := id ha
        subst ht
        rcases hpx with ⟨_, rfl⟩ | ⟨h, _⟩
        rotate_left
        · cases h
        rcases hpy with ⟨_, rfl⟩ | ⟨h, _⟩
        rotate_left
        · cases h
        simp only [Rep] at hx hy
        obtain ⟨c1, c2, rfl, ⟨rfl, _⟩, ⟨rfl, _⟩⟩ := hx
        obtain ⟨d1, d2, rfl, ⟨rfl, _⟩, ⟨rfl, _⟩⟩ := hy
        simp only [eqD, Option.some.injEq] at he
        subst he
        obtain ⟨d, rfl⟩ : ∃ d', d = d' + 1 := ⟨d - 1, by simp only [nodes] at hd; omega⟩
        exact equal_arr ha d _ _ _ _
      have hnf := hus.1
      replace hus := hus.2
      obtain ⟨fs, h1, h2, h3, h4⟩ := hus
      rcases hpx with ⟨_, rfl⟩ | ⟨h, _⟩
      rotate_left
      · rw [hag] at h; cases h
      rcases hpy with ⟨_, rfl⟩ | ⟨h, _⟩
      rotate_left
      · rw [hag] at h; cases h
      have hfo : P.fieldsOf T = fs := by simp [Program.fieldsOf, h1]
      rw [run_equalIn_struct w d T _ _ (by rw [hfo]; exact h1) h3, hfo]
      by_cases hne : fs.toList = []
      · have : fs.size = 0 := by
          have := congrArg List.length hne
          simpa using this
        exact absurd (h2 ▸ this) hnf
      · have := eqFields_sound hf (m := m) (IH := fun t ht => equalIn_sound hf m t ht) fs.toList t 0 d X Y cx cy [] [] [] [] b (by omega) (by omega) hne (by
          intro i f hi
          obtain ⟨q, u, k1, k2, k3, k4⟩ := h4 i f (by simpa using hi)
          exact ⟨q, u, by simpa [h2] using k1, by simpa using k2, k3, k4⟩) hx hy rfl rfl he
        simpa using this
    cases t with
    | int k =>
      simp only [UFit] at hu
      simp only [Rep] at hx hy
      obtain ⟨rfl, _⟩ := hx
      obtain ⟨rfl, _⟩ := hy
      rcases hpx with ⟨h, _⟩ | ⟨_, h⟩
      · cases h
      rcases hpy with ⟨h', _⟩ | ⟨_, h'⟩
      · cases h'
      simp at h h'
      subst h h'
      simp only [eqD, Option.some.injEq] at he
      subst he
      simp [Op.equalIn, run_underlying hu]
    | bool =>
      simp only [UFit] at hu
      simp only [Rep] at hx hy
      subst hx hy
      rcases hpx with ⟨h, _⟩ | ⟨_, h⟩
      · cases h
      rcases hpy with ⟨h', _⟩ | ⟨_, h'⟩
      · cases h'
      simp at h h'
      subst h h'
      simp only [eqD, Option.some.injEq] at he
      subst he
      simp [Op.equalIn, run_underlying hu]
    | nil => simp [size] at hpos
    | one a => exact hstruct rfl
    | pair a b => exact hstruct rfl
    | sl u => simp [eqD] at he
    | fn f c => simp [eqD] at he
    | hsl t => simp [eqD] at he

theorem cell_flat_D {t : Ty} {x : Den t} {v : Value} {n : Bool × Nat} (h : (SV.v t x).ag = some n) (hx : VR w S hv g (.v t x) v) : ∃ cs, Pk (isAgg t) cs v ∧ Rep w S false t x cs := by
  obtain ⟨cs, h1, h2, _, _⟩ := VR_cells h hx
  simp only [SV.ag, Option.some.injEq] at h
  subst h
  exact ⟨cs, h1, by simpa only [CRep] using h2⟩

theorem binOp_eq {T : Nat} {x y : Value} {b : Bool} (hx : ∀ k n, x ≠ .int k n) (h : (Op.equalIn Op.maxDepth T x y).run P w = .ok b w) (hn : (∃ u, x = .bool u) ∨ (∃ cs, x = .agg cs) ∨ (∃ a n c, x = .slice a n c)) :
    (binOp .eql T x y).run P w = .ok (.bool b) w ∧ (binOp .neq T x y).run P w = .ok (.bool (!b)) w := by
  rcases hn with ⟨u, rfl⟩ | ⟨cs, rfl⟩ | ⟨a, n, c, rfl⟩ <;> constructor <;> simp [binOp, Op.equal, h]

theorem eq_exec (o : Oper) (ρ : Operand → Value) (op : BinOp) (T U : Nat) (x y : Operand) (ho : o.op = .binOp op T x y U) (hop : op = .eql ∨ op = .neq) (hg : P.eqGuardType P.depth T = false) {b : Bool} (h : (Op.equalIn Op.maxDepth T (ρ x) (ρ y)).run P w = .ok b w)
    (hn : (∃ u, ρ x = .bool u) ∨ (∃ cs, ρ x = .agg cs) ∨ (∃ a n c, ρ x = .slice a n c)) : (execOp ρ o).run P w = .ok (.value (.bool (if op = .eql then b else !b))) w := by
  have hni : ∀ k n, ρ x ≠ .int k n := by rcases hn with ⟨u, h⟩ | ⟨cs, h⟩ | ⟨a, n, c, h⟩ <;> simp [h]
  obtain ⟨h1, h2⟩ := binOp_eq (P := P) (w := w) hni h hn
  have hgd : (eqGuard op T x y (ρ x) (ρ y)).run P w = .ok () w := by
    rcases hn with ⟨u, hx⟩ | ⟨cs, hx⟩ | ⟨a, n, c, hx⟩
    · rw [hx, eqGuard_at_bool]; rfl
    · rw [hx]
      unfold eqGuard
      rcases hop with rfl | rfl
      · cases hy : ρ y <;> simp [hg]
      · cases hy : ρ y <;> simp [hg]
    · rw [hx, eqGuard_at_slice]; rfl
  unfold execOp
  rcases hop with rfl | rfl
  · simp [ho, hgd, h1]
  · simp [ho, hgd, h2]

theorem nilOf_sound (hI : Inv w S hv F g) (hl : ∀ c r, gl c = some r → g c = some r) {a : SV} {v : Value} {n : Bool} (h : VR w S hv g a v) (hn : nilOf gl a = some n) : ∃ b k c, v = .slice b k c ∧ n = b.isNone := by
  have key : ∀ {k : Nat}, HdrS n k v → ∃ b k c, v = .slice b k c ∧ n = b.isNone := fun hh => by
    obtain ⟨b, c, h1, _, _, h2⟩ := hh.len
    exact ⟨b, _, c, h1, h2⟩
  cases a <;> simp only [nilOf, reduceCtorEq] at hn
  case v t x =>
    cases t <;> simp at hn
    subst hn
    exact key (hdr_v h)
  case ref c =>
    rw [ref_val h]
    rw [ref_val h] at key
    cases hg : gl c with
    | none => simp [hg] at hn
    | some r =>
      have hgc := hl _ _ hg
      rw [hg] at hn
      cases r <;> try simp at hn
      · subst hn; exact key (.inl (hdr_row hI hgc))
      · subst hn; exact key (.inl (hdr_rowl hI hgc))
      · rename_i t x
        cases t <;> simp at hn
        subst hn
        exact key (hdr_fz hI hgc)
  case nilv =>
    rw [VR_cell rfl] at h
    simp only [CRep, List.cons.injEq, and_true] at h
    exact ⟨none, 0, 0, h, by simpa using hn.symm⟩

theorem bin_sound (hf : Fit P H) (hI : Inv w S hv F g) (hl : ∀ c r, gl c = some r → g c = some r) (o : Oper) (ρ : Operand → Value) (op : BinOp) (T U : Nat) (x y : Operand) (ho : o.op = .binOp op T x y U) {a b : SV}
    (hx : VR w S hv g a (ρ x)) (hy : VR w S hv g b (ρ y)) {e : Eff} (he : (binE H gl op T a b).run = some e) : Res P ((execOp ρ o).run P w) (Out w S hv F g e) := by
  -- against nil
  have hnil : ∀ (n : Bool) (t : Ty), H.ty T = some (.sl t) → (∃ b k c, ρ x = .slice b k c ∧ ∃ b' k' c', ρ y = .slice b' k' c' ∧ ((b' = none ∧ n = b.isNone) ∨ (b = none ∧ n = b'.isNone))) → (op = .eql ∨ op = .neq) → e = ⟨.v .bool (if op = .eql then n else !n), []⟩ →
      Res P ((execOp ρ o).run P w) (Out w S hv F g e) := by
    rintro n t hT ⟨b, k, c, h1, b', k', c', h2, h3⟩ hop rfl
    have hft := hf.ty T _ hT
    obtain ⟨E, hu, _⟩ := hft.under
    have heq : (Op.equalIn Op.maxDepth T (ρ x) (ρ y)).run P w = .ok n w := by
      obtain ⟨d, hd⟩ : ∃ d, Op.maxDepth = d + 1 := ⟨9999, rfl⟩
      rw [h1, h2, hd]
      rcases h3 with ⟨rfl, rfl⟩ | ⟨rfl, rfl⟩
      · cases b <;> simp [Op.equalIn, run_underlying hu]
      · simp [Op.equalIn, run_underlying hu]
    exact Res_value (eq_exec o ρ op T U x y ho hop hft.guard heq (.inr (.inr ⟨b, k, c, h1⟩))) (bool_out hI)
  have hnilE : ∀ (z : SV), (match H.ty T with
      | some (.sl _) => (match op, nilOf gl z with
        | .eql, some n => (.ret ⟨.v .bool n, []⟩ : M Eff)
        | .neq, some n => .ret ⟨.v .bool (!n), []⟩
        | _, _ => .fail)
      | _ => .fail).run = some e → ∃ n t, H.ty T = some (.sl t) ∧ nilOf gl z = some n ∧ (op = .eql ∨ op = .neq) ∧ e = ⟨.v .bool (if op = .eql then n else !n), []⟩ := by
    intro z h
    split at h
    rotate_left
    · simp [M.run] at h
    rename_i t hT
    split at h
    · rename_i n hn
      simp only [M.run, Option.some.injEq] at h
      exact ⟨n, t, hT, hn, .inl rfl, h.symm⟩
    · rename_i n hn
      simp only [M.run, Option.some.injEq] at h
      exact ⟨n, t, hT, hn, .inr rfl, h.symm⟩
    · simp [M.run] at h
  have hnv : ∀ v, VR w S hv g .nilv v → v = .slice none 0 0 := fun v h => by
    rw [VR_cell rfl] at h
    simpa only [CRep, List.cons.injEq, and_true] using h
  have he0 := he
  unfold binE at he
  dsimp only at he
  split at he
  · exact binInt_sound hI gl o ρ op T U x y ho hx hy he0
  · obtain ⟨n, t, hT, hn, hop, rfl⟩ := hnilE _ he
    obtain ⟨b, k, c, h1, h2⟩ := nilOf_sound hI hl hx hn
    exact hnil n t hT ⟨b, k, c, h1, none, 0, 0, hnv _ hy, .inl ⟨rfl, h2⟩⟩ hop rfl
  · obtain ⟨n, t, hT, hn, hop, rfl⟩ := hnilE _ he
    obtain ⟨b, k, c, h1, h2⟩ := nilOf_sound hI hl hy hn
    exact hnil n t hT ⟨none, 0, 0, hnv _ hx, b, k, c, h1, .inr ⟨rfl, h2⟩⟩ hop rfl
  · rename_i t X u Y hnint
    split at he
    rotate_left
    · simp [M.run] at he
    rename_i Y' t' hc hT
    split at he
    rotate_left
    · simp [M.run] at he
    rename_i htt
    have htt : t = t' := of_decide_eq_true htt
    subst htt
    have := cast_spec hc
    simp only [Sigma.mk.injEq] at this
    obtain ⟨rfl, hh⟩ := this
    have := eq_of_heq hh
    subst this
    have hft := hf.ty T _ hT
    obtain ⟨cx, p1, p2⟩ := cell_flat_D (n := (isAgg u, size u)) rfl hx
    obtain ⟨cy, p3, p4⟩ := cell_flat_D (n := (isAgg u, size u)) rfl hy
    have hmain : ∀ n, eqD u X Y = some n → (op = .eql ∨ op = .neq) → e = ⟨.v .bool (if op = .eql then n else !n), []⟩ → Res P ((execOp ρ o).run P w) (Out w S hv F g e) := by
      rintro n hn hop rfl
      have heq := equalIn_sound hf 1000 u hft.small T Op.maxDepth X Y cx cy (ρ x) (ρ y) n hT (by have := hft.small; simp only [Op.maxDepth]; omega) p2 p4 p1 p3 hn
      refine Res_value (eq_exec o ρ op T U x y ho hop hft.guard heq ?_) (bool_out hI)
      rcases p1 with ⟨_, h⟩ | ⟨ha, h⟩
      · exact .inr (.inl ⟨_, h⟩)
      · cases u with
        | int k => exact (hnint k X k Y rfl HEq.rfl rfl HEq.rfl).elim
        | bool =>
          simp only [Rep] at p2
          rw [h] at p2
          simp at p2
          exact .inl ⟨_, p2⟩
        | nil => simp [isAgg] at ha
        | one a => simp [isAgg] at ha
        | pair a b => simp [isAgg] at ha
        | sl a => simp [eqD] at hn
        | fn f c => simp [eqD] at hn
        | hsl t => simp [eqD] at hn
    split at he
    · rename_i n hn
      simp only [M.run, Option.some.injEq] at he
      exact hmain n hn (.inl rfl) he.symm
    · rename_i n hn
      simp only [M.run, Option.some.injEq] at he
      exact hmain n hn (.inr rfl) he.symm
    · simp [M.run] at he
  · simp [M.run] at he
end
end Go.Rf

namespace Go.Rf

section
variable {P : Program} {H : Hints} {w w' : World} {S : Nat → Prop} {hv : Nat → Value} {F : Nat → Nat → Prop} {g gl : Look}

theorem AFit_of (hf : Fit P H) {T : Nat} (hT : H.ty T = some (.pair (.int .i64) (.int .i64))) (h0 : H.nf T = 0) : AFit P H T (.pair (.int .i64) (.int .i64)) := by
  have hu := (hf.ty T _ hT).under
  simp only [UFit] at hu
  exact hu.elim (fun h => absurd h0 h.1) id

theorem run_indexArr {T : Nat} {t : Ty} (ha : AFit P H T t) {b o : Nat} {k : IntKind} {n : Int} (h : n = 0 ∨ n = 1) :
    (Instr.indexAt T (.pointer (some ⟨b, o, none⟩)) (.int k n)).run P w = .ok (.pointer (some ⟨b, o + n.toNat, none⟩)) w := by
  obtain ⟨_, _, _, E, h1, h2, i, h3, h4⟩ := ha
  have h5 : 0 ≤ n := by omega
  have h6 : n < 2 := by omega
  unfold Instr.indexAt
  simp [run_underlying h1, asIntOf, Instr.sureAddr, h5, h6, run_sizeOf h3, h4, Addr.add_none]

theorem indexArr_sound (hf : Fit P H) (hI : Inv w S hv F g) (o : Oper) (ρ : Operand → Value) (T : Nat) (x i : Operand) (ho : o.op = .indexAddr T x i) {t : Ty} (ha : AFit P H T t) {c : Nat} {r : List Step} (hx : VR w S hv g (.ptr c r) (ρ x)) {k : IntKind} {n : Int} (hi : VR w S hv g (.v (.int k) n) (ρ i)) {s : Step} (hs : (n = 0 ∧ s = .fst) ∨ (n = 1 ∧ s = .snd 1)) :
    Res P ((execOp ρ o).run P w) (Out w S hv F g ⟨.ptr c (r ++ [s]), []⟩) := by
  rw [VR_int] at hi
  rw [VR_cell rfl] at hx
  simp only [CRep, List.cons.injEq, and_true] at hx
  obtain ⟨h1, h2, h3, h4⟩ := hx
  obtain ⟨b, o', _, h5⟩ := based_adr h3
  have hn : n = 0 ∨ n = 1 := by rcases hs with ⟨h, _⟩ | ⟨h, _⟩ <;> simp [h]
  have hoff : pathOff (r ++ [s]) = pathOff r + n.toNat := by
    rw [pathOff_append]
    rcases hs with ⟨rfl, rfl⟩ | ⟨rfl, rfl⟩ <;> simp [pathOff, Step.off]
  refine Res_value (v := adr (hv c) (pathOff (r ++ [s]))) ?_ (Out.same hI ?_)
  · unfold execOp
    simp [ho, h2, h5, hi.1, run_indexArr ha hn, hoff, Nat.add_assoc]
  · rw [VR_cell rfl]
    simp only [CRep]
    refine ⟨h1, trivial, h3, PtrIn_append ⟨by simp, fun s' hs' j z => ?_⟩ h4⟩
    simp only [List.mem_singleton] at hs'
    subst hs'
    rcases hs with ⟨_, rfl⟩ | ⟨_, rfl⟩ <;> simp

/-! ### maps -/
def IsKeyT (k : Ty) : Prop := k = .int .i64 ∨ k = .pair (.int .i64) (.int .i64)

def keyV : (k : Ty) → Den k → Value
  | .int _, n => .int .i64 n
  | .pair (.int _) (.int _), p => .agg #[.int .i64 p.1, .int .i64 p.2]
  | _, _ => .nilFunc

def eqb : (k : Ty) → Den k → Den k → Bool
  | .int _, x, y => (x : Int) == (y : Int)
  | .pair (.int _) (.int _), x, y => ((x.1 : Int) == (y.1 : Int)) && ((x.2 : Int) == (y.2 : Int))
  | _, _, _ => false

theorem eqD_key {k : Ty} (hk : IsKeyT k) (x y : Den k) : (eqD k x y == some true) = eqb k x y := by
  rcases hk with rfl | rfl
  · simp only [eqD, eqb]
    cases ((x : Int) == (y : Int)) <;> rfl
  · simp only [eqD, eqb]
    cases ((x.1 : Int) == (y.1 : Int)) <;> cases ((x.2 : Int) == (y.2 : Int)) <;> rfl

theorem eqb_eq {k : Ty} (hk : IsKeyT k) {x y : Den k} (h : eqb k x y = true) : x = y := by
  rcases hk with rfl | rfl
  · simp only [eqb, beq_iff_eq] at h
    exact h
  · simp only [eqb, Bool.and_eq_true, beq_iff_eq] at h
    exact Prod.ext h.1 h.2

theorem Pk_key {k : Ty} (hk : IsKeyT k) {x : Den k} {cs : List Value} {v : Value} (hp : Pk (isAgg k) cs v) (hr : Rep w S false k x cs) : v = keyV k x := by
  rcases hk with rfl | rfl
  · simp only [Rep] at hr
    rcases hp with ⟨h, _⟩ | ⟨_, h⟩
    · cases h
    · rw [hr.1] at h
      simp only [List.cons.injEq, and_true] at h
      rw [← h]
      rfl
  · simp only [Rep] at hr
    obtain ⟨c1, c2, rfl, ⟨rfl, _⟩, ⟨rfl, _⟩⟩ := hr
    rcases hp with ⟨_, h⟩ | ⟨h, _⟩
    · rw [h]; rfl
    · cases h

structure MFit (P : Program) (H : Hints) (T K E : Nat) (k v : Ty) : Prop where
  map : P.underlying T = some (.map K E)
  key : H.ty K = some k
  val : H.ty E = some v
  isv : v = .int .i64
  isk : (k = .int .i64 ∧ P.underlying K = some (.int .i64)) ∨ (k = .pair (.int .i64) (.int .i64) ∧ AFit P H K k)

theorem MFit_of (hf : Fit P H) {T : Nat} {k v : Ty} (h : mapTy H T = some (k, v)) : ∃ K E, MFit P H T K E k v := by
  unfold mapTy at h
  split at h
  · rename_i K E hm
    split at h
    · rename_i hK hE
      simp only [Option.some.injEq, Prod.mk.injEq] at h
      obtain ⟨rfl, rfl⟩ := h
      exact ⟨K, E, hf.maps T K E hm, hK, hE, rfl, .inl ⟨rfl, (hf.ty K _ hK).under⟩⟩
    · rename_i hK hE
      split at h
      · rename_i h0
        simp only [Option.some.injEq, Prod.mk.injEq] at h
        obtain ⟨rfl, rfl⟩ := h
        exact ⟨K, E, hf.maps T K E hm, hK, hE, rfl, .inr ⟨rfl, AFit_of hf hK h0⟩⟩
      · cases h
    · cases h
  · cases h

theorem MFit.isKey {T K E : Nat} {k v : Ty} (h : MFit P H T K E k v) : IsKeyT k := h.isk.elim (fun h => .inl h.1) fun h => .inr h.1

theorem run_check {T K E : Nat} {k v : Ty} (hm : MFit P H T K E k v) (em : Bool) (x : Den k) : (Instr.checkKey em 10000 K (keyV k x)).run P w = .ok () w := by
  have one : ∀ (n : Nat) (E : Nat) (y : Int), P.underlying E = some (.int .i64) → (Instr.checkKey em (n + 1) E (.int .i64 y)).run P w = .ok () w := by
    intro n E y hE
    unfold Instr.checkKey
    simp [run_underlying hE]
  rcases hm.isk with ⟨rfl, hK⟩ | ⟨rfl, ha⟩
  · exact one 9999 K x hK
  · obtain ⟨_, _, _, A, h1, h2, i, h3, h4⟩ := ha
    show (Instr.checkKey em (9999 + 1) K (.agg #[.int .i64 x.1, .int .i64 x.2])).run P w = .ok () w
    unfold Instr.checkKey
    have p1 := part_arr (w := w) h2 #[.int .i64 x.1, .int .i64 x.2] 0 (.int .i64 x.1) rfl
    have p2 := part_arr (w := w) h2 #[.int .i64 x.1, .int .i64 x.2] 1 (.int .i64 x.2) rfl
    have r2 : List.range' 0 2 = [0, 1] := rfl
    simp only [Sem.run_bind, run_underlying h1, Result.andThen_ok]
    simp [Std.Legacy.Range.forIn_eq_forIn_range', Std.Legacy.Range.size, r2, run_sizeOf h3, h4, p1, p2, one 9998 A x.1 h2, one 9998 A x.2 h2]

def findL {α : Type} (q : α → Bool) : List α → List MapEntry → Nat → Option (Nat × Value)
  | e :: es, m :: l, i => if q e = true then some (i, m.val) else findL q es l (i + 1)
  | _, _, _ => none

theorem findL_idx {α : Type} (q : α → Bool) : ∀ (es : List α) (l : List MapEntry) (i : Nat), es.length = l.length → findL q es l i = (es.findIdx? q).map fun j => (i + j, ((l[j]?).map (·.val)).getD .nilFunc)
  | [], l, i, _ => by simp [findL]
  | e :: es, [], i, h => by simp at h
  | e :: es, m :: l, i, h => by
    rw [findL, List.findIdx?_cons]
    by_cases hq : q e = true
    · simp [hq]
    · rw [if_neg hq, findL_idx q es l (i + 1) (by simpa using h)]
      simp only [hq, Bool.false_eq_true, if_false, Option.map_map]
      congr 1
      funext j
      simp only [Function.comp, List.getElem?_cons_succ, Prod.mk.injEq, and_true]
      omega

/-- the keys and values of entries -/
def Ents (k v : Ty) (l : List MapEntry) (es : List (Den (.pair k v))) : Prop := l.length = es.length ∧ ∀ (j : Nat) (m : MapEntry) (e : Den (.pair k v)), l[j]? = some m → es[j]? = some e → m.key = keyV k e.1 ∧ m.val = keyV v e.2

theorem Ents.tail {k v : Ty} {m : MapEntry} {l : List MapEntry} {e : Den (.pair k v)} {es : List (Den (.pair k v))} (h : Ents k v (m :: l) (e :: es)) : Ents k v l es :=
  ⟨by simpa using h.1, fun j m' e' h1 h2 => h.2 (j + 1) m' e' (by simpa using h1) (by simpa using h2)⟩

theorem findNow_int (n : Int) : ∀ (l : List MapEntry) (es : List (Den (.pair (.int .i64) (.int .i64)))) (i : Nat), Ents (.int .i64) (.int .i64) l es →
    Instr.findNow (.int .i64) (.int .i64 n) l i = some (findL (fun e => eqb (.int .i64) n e.1) es l i)
  | [], es, i, h => by cases es <;> simp [Instr.findNow, findL]
  | m :: l, [], i, h => by have := h.1; simp at this
  | m :: l, e :: es, i, h => by
    obtain ⟨h1, h2⟩ := h.2 0 m e rfl rfl
    have ih := findNow_int n l es (i + 1) h.tail
    have hs : Instr.sameNow (.int .i64) (.int .i64 n) m.key = some (eqb (.int .i64) n e.1) := by
      rw [h1]
      simp only [keyV, Instr.sameNow, if_true]
      rfl
    rw [Instr.findNow, hs, findL]
    by_cases hb : eqb (.int .i64) n e.1 = true
    · rw [hb, if_pos rfl]
    · have hb' : eqb (.int .i64) n e.1 = false := by simpa using hb
      rw [hb', if_neg (by decide)]
      exact ih

theorem findAsk_arr {K : Nat} (ha : AFit P H K (.pair (.int .i64) (.int .i64))) (x : Den (.pair (.int .i64) (.int .i64))) : ∀ (l : List MapEntry) (es : List (Den (.pair (.pair (.int .i64) (.int .i64)) (.int .i64)))) (i : Nat), Ents (.pair (.int .i64) (.int .i64)) (.int .i64) l es →
    (Instr.findAsking K (keyV (.pair (.int .i64) (.int .i64)) x) l i).run P w = .ok (findL (fun e => eqb (.pair (.int .i64) (.int .i64)) x e.1) es l i) w
  | [], es, i, h => by cases es <;> simp [Instr.findAsking, findL]
  | m :: l, [], i, h => by have := h.1; simp at this
  | m :: l, e :: es, i, h => by
    obtain ⟨h1, h2⟩ := h.2 0 m e rfl rfl
    have ih := findAsk_arr ha x l es (i + 1) h.tail
    have he : (Op.equal K (keyV (.pair (.int .i64) (.int .i64)) x) m.key).run P w = .ok (eqb (.pair (.int .i64) (.int .i64)) x e.1) w := by
      rw [h1]
      exact equal_arr ha 9998 _ _ _ _
    rw [Instr.findAsking, findL]
    simp only [Sem.run_bind, he, Result.andThen_ok]
    cases hq : eqb (.pair (.int .i64) (.int .i64)) x e.1 with
    | true => simp
    | false => simp [ih]

theorem run_find {T K E : Nat} {k v : Ty} (hm : MFit P H T K E k v) (x : Den k) (l : List MapEntry) (es : List (Den (.pair k v))) (h : Ents k v l es) :
    (Instr.findKey K (keyV k x) l).run P w = .ok (findL (fun e => eqb k x e.1) es l 0) w := by
  obtain ⟨_, _, _, rfl, hk⟩ := hm
  rcases hk with ⟨rfl, hK⟩ | ⟨rfl, ha⟩
  · simp [Instr.findKey, run_underlying hK, show keyV (.int .i64) x = .int .i64 x from rfl, findNow_int x l es 0 h]
  · obtain ⟨A, h1, _⟩ := ha.2.2.2
    cases l with
    | nil => cases es <;> simp [Instr.findKey, run_underlying h1, Instr.findNow, findL]
    | cons m l =>
      cases es with
      | nil => have := h.1; simp at this
      | cons e es =>
        obtain ⟨h3, _⟩ := h.2 0 m e rfl rfl
        have hno : Instr.findNow (.array 2 A) (keyV (.pair (.int .i64) (.int .i64)) x) (m :: l) 0 = none := by
          rw [Instr.findNow, h3]
          simp only [keyV, Instr.sameNow]
        have := findAsk_arr (w := w) ha x (m :: l) (e :: es) 0 h
        simp [Instr.findKey, run_underlying h1, hno, this]

theorem mapFind_find {k v : Ty} (hk : IsKeyT k) (x : Den k) (l : List MapEntry) (es : List (Den (.pair k v))) (h : es.length = l.length) :
    findL (fun e => eqb k x e.1) es l 0 = (mapFind k v es x).map fun j => (j, ((l[j]?).map (·.val)).getD .nilFunc) := by
  rw [findL_idx _ es l 0 h, mapFind]
  simp only [eqD_key hk, Nat.zero_add]

theorem Ents_of {k v : Ty} (hk : IsKeyT k) (hv' : IsKeyT v) {arr : Array MapEntry} {es : List (Den (.pair k v))} (h4 : arr.size = es.length) (h5 : ∀ (i : Nat) (m : MapEntry) (e : Den (.pair k v)), arr[i]? = some m → es[i]? = some e → MEnt w S k v m e) : Ents k v arr.toList es := by
  refine ⟨by simpa using h4, fun j m e h1 h2 => ?_⟩
  obtain ⟨⟨cs, p1, p2⟩, ds, p3, p4⟩ := h5 j m e (by simpa using h1) h2
  exact ⟨Pk_key hk p1 p2, Pk_key hv' p3 p4⟩

theorem mapFind_lt {k v : Ty} {es : List (Den (.pair k v))} {x : Den k} {j : Nat} (h : mapFind k v es x = some j) : j < es.length ∧ ∀ e, es[j]? = some e → (eqD k x e.1 == some true) = true := by
  unfold mapFind at h
  rw [List.findIdx?_eq_some_iff_getElem] at h
  obtain ⟨h1, h2, _⟩ := h
  refine ⟨h1, fun e he => ?_⟩
  rw [List.getElem?_eq_getElem h1] at he
  cases he
  exact h2

/-- a map's region, as the evaluator reads it -/
theorem mapAt_spec {k v : Ty} {a : SV} {c : Nat} {es : List (Den (.pair k v))} (h : mapAt gl k v a = some (c, es)) : a = .ref c ∧ gl c = some (.map k v es) := by
  unfold mapAt at h
  split at h
  · rename_i c'
    split at h
    · rename_i k' v' es' hg
      split at h
      · rename_i ys hc
        simp only [Option.some.injEq, Prod.mk.injEq] at h
        obtain ⟨rfl, rfl⟩ := h
        refine ⟨rfl, ?_⟩
        rw [hg]
        unfold castL at hc
        split at hc
        · rename_i he
          cases he
          simp only [Option.some.injEq] at hc
          subst hc
          rfl
        · cases hc
      · cases h
    · cases h
  · cases h
end
end Go.Rf

namespace Go.Rf

section
variable {P : Program} {H : Hints} {w w' : World} {S : Nat → Prop} {hv : Nat → Value} {F : Nat → Nat → Prop} {g gl : Look}

theorem heap_put {r : Nat} {o o' : Obj} (hb : w.heap[r]? = some o) : (w.heap.setIfInBounds r o')[r]? = some o' ∧ ∀ r', r' ≠ r → (w.heap.setIfInBounds r o')[r']? = w.heap[r']? := by
  have hlt : r < w.heap.size := (Array.getElem?_eq_some_iff.1 hb).1
  exact ⟨by simp [hlt], fun r' hne => by simp [Ne.symm hne]⟩

theorem run_get_map {r : Nat} {es : Array MapEntry} {clock : Nat} (hb : w.heap[r]? = some (.map es clock)) : (getObj r).run P w = .ok (.map es clock) w := by
  simp [getObj, Sem.run, hb]

theorem run_set_map {r : Nat} {es : Array MapEntry} {clock : Nat} (o : Obj) (hb : w.heap[r]? = some (.map es clock)) : (setObj r o).run P w = .ok () { w with heap := w.heap.setIfInBounds r o } := by
  simp [setObj, Sem.run, hb]

/-- a map's region made or changed -/
theorem map_step (hI : Inv w S hv F g) {d : Nat} {k v : Ty} (hfl : flat k = true ∧ flat v = true) {es : List (Den (.pair k v))} {b : Nat} {hd : Value} {arr : Array MapEntry} {clk : Nat}
    (hhd : hd = .map (some b)) (hdv : g d ≠ none → hd = hv d) (hlenn : ∀ n, g d ≠ none → (Rg.map k v es).len = some n → glen g d = some n)
    (hb : (g d = none ∧ b = w.heap.size) ∨ F d b) (hsz : w.heap.size ≤ w'.heap.size) (hblt : b < w'.heap.size) (hat : w'.heap[b]? = some (.map arr clk)) (hfr : ∀ b', b' < w.heap.size → b' ≠ b → w'.heap[b']? = w.heap[b']?)
    (hn : arr.size = es.length) (hent : KeepsC S w w' → ∀ (i : Nat) (m : MapEntry) (e : Den (.pair k v)), arr[i]? = some m → es[i]? = some e → MEnt w' S k v m e) (hstill : Still w w') :
    Out w S hv F g ⟨.unit, [(d, .map k v es)]⟩ (.tuple #[]) w' ∧ Out w S hv F g ⟨.ref d, [(d, .map k v es)]⟩ hd w' := by
  have hFb : ∀ b', F d b' → b' < w.heap.size := fun b' h => hI.old d b' h
  have hs := re_step (gl := g) (d := d) (r := .map k v es) (v := hd) (gs := []) (fs := []) (Fd := fun b' => b' = b) (Q := fun _ => False) (w' := w') hI (fun _ _ h => h) hdv hlenn (.inl rfl) (by simp) (by simp) (by simp) (by simp) (by simp) hsz
    (fun b' h1 h2 => hfr b' h1 fun e => by
      subst e
      rcases hb with ⟨_, h⟩ | h
      · omega
      · exact h2 ⟨d, by simp, h⟩)
    (fun b' h => by
      have h : b' = b := h
      subst h
      refine ⟨?_, hblt⟩
      rcases hb with ⟨_, h⟩ | h
      · exact .inr (by omega)
      · exact .inl ⟨d, by simp, h⟩)
    (fun b' h => h.elim) (fun hx => by
      simp only [GRep, if_true]
      refine ⟨hfl, b, arr, clk, hhd, hat, rfl, hn, fun i m e h1 h2 => ?_⟩
      obtain ⟨⟨cs, p1, p2⟩, ds, p3, p4⟩ := hent hx.keep i m e h1 h2
      exact ⟨⟨cs, p1, Rep_mono (fun _ _ _ _ h => h) hx.sub _ _ _ _ p2⟩, ds, p3, Rep_mono (fun _ _ _ _ h => h) hx.sub _ _ _ _ p4⟩) hstill
  refine ⟨Out.mk (updReg_re g g d _ [] []) hs rfl, Out.mk (updReg_re g g d _ [] []) hs ?_⟩
  rw [VR_cell rfl]
  simp only [CRep, if_true]
  exact ⟨by simp [reLook], by rw [hhd]; rfl, trivial⟩

theorem makeMap_sound (hf : Fit P H) (hI : Inv w S hv F g) (o : Oper) (ρ : Operand → Value) (T : Nat) (ho : o.op = .makeMap T none) {k v : Ty} (hm : mapTy H T = some (k, v)) {d : Nat} (hd : g d = none) :
    Res P ((execOp ρ o).run P w) (Out w S hv F g ⟨.ref d, [(d, .map k v [])]⟩) := by
  obtain ⟨K, E, hM⟩ := MFit_of hf hm
  have hfl : flat k = true ∧ flat v = true := by
    rw [hM.isv]
    rcases hM.isKey with rfl | rfl <;> exact ⟨rfl, rfl⟩
  refine Res_world (v := .map (some w.heap.size)) (w' := w.alloc (.map #[] 0)) ?_ (map_step (w' := w.alloc (.map #[] 0)) (b := w.heap.size) (arr := #[]) (clk := 0) hI hfl rfl (fun h => absurd hd h) (fun n h => absurd hd h) (.inl ⟨hd, rfl⟩) (by simp) (by simp) (by rw [heap_alloc_at, if_pos rfl]) (fun b' h hne => by rw [heap_alloc_at, if_neg hne]) rfl (fun _ i m e h => by simp at h) ⟨rfl, rfl, rfl, Nat.le_refl _⟩).2
  unfold execOp
  simp [ho, Instr.makeMap]

theorem datum_spec {t : Ty} {a : SV} {x : Den t} (h : datum t a = some x) : a = .v t x := by
  unfold datum at h
  split at h
  · rename_i u y
    unfold cast at h
    split at h
    · rename_i he
      subst he
      simp only [Option.some.injEq] at h
      subst h
      rfl
    · cases h
  · cases h

theorem key_spec {t : Ty} (ht : IsKeyT t) {x : Den t} {v : Value} (h : VR w S hv g (.v t x) v) : v = keyV t x ∧ ∃ cs, Pk (isAgg t) cs v ∧ Rep w S false t x cs := by
  have hag : (SV.v t x).ag = some (isAgg t, size t) := rfl
  obtain ⟨cs, p1, p2⟩ := cell_flat_D hag h
  exact ⟨Pk_key ht p1 p2, cs, p1, p2⟩

/-- a map in memory, as its region tells -/
theorem map_at (hI : Inv w S hv F g) (hl : ∀ c r, gl c = some r → g c = some r) {k v : Ty} {a : SV} {c : Nat} {es : List (Den (.pair k v))} {m : Value} (h : mapAt gl k v a = some (c, es)) (hx : VR w S hv g a m) :
    a = .ref c ∧ g c = some (.map k v es) ∧ m = hv c ∧ ∃ b arr clk, hv c = .map (some b) ∧ w.heap[b]? = some (.map arr clk) ∧ F c b ∧ arr.size = es.length ∧ (flat k = true ∧ flat v = true) ∧ ∀ (i : Nat) (m : MapEntry) (e : Den (.pair k v)), arr[i]? = some m → es[i]? = some e → MEnt w S k v m e := by
  obtain ⟨rfl, hg⟩ := mapAt_spec h
  have hg' := hl _ _ hg
  have hr := hI.rep c _ hg'
  simp only [GRep] at hr
  obtain ⟨hfl, b, arr, clk, h1, h2, h3, h4, h5⟩ := hr
  exact ⟨rfl, hg', ref_val hx, b, arr, clk, h1, h2, h3, h4, hfl, h5⟩

theorem mapLen_sound (hf : Fit P H) (hI : Inv w S hv F g) (hl : ∀ c r, gl c = some r → g c = some r) (o : Oper) (ρ : Operand → Value) (T : Nat) (x : Operand) (ho : o.op = .call { callee := .builtin .len, args := #[x], argTypes := #[T] }) {a : SV} (hx : VR w S hv g a (ρ x)) {e : Eff} (he : (mapLenE H gl T a).run = some e) :
    Res P ((execOp ρ o).run P w) (Out w S hv F g e) := by
  unfold mapLenE at he
  split at he
  rotate_left
  · simp [M.run] at he
  rename_i k v hm
  obtain ⟨K, E, hM⟩ := MFit_of hf hm
  split at he
  rotate_left
  · simp [M.run] at he
  rename_i c es ha
  obtain ⟨rfl, hg, hxv, b, arr, clk, h1, h2, h3, h4, _, h5⟩ := map_at hI hl ha hx
  simp only [M.run] at he
  by_cases hle : es.length ≤ lim
  · simp only [hle, decide_true, cond_true, Option.some.injEq] at he
    subst he
    have hlim : lim = 1099511627776 := rfl
    have hmin : IntKind.i64.min = -9223372036854775808 := by decide
    have hmax : IntKind.i64.max = 9223372036854775807 := by decide
    refine Res_value (v := .int .i64 (es.length : Int)) ?_ (int_out hI ⟨by omega, by omega⟩)
    obtain ⟨bs, hb⟩ := builtin_exec (P := P) (w := w) o ρ _ _ _ ho
    rw [hb]
    simp [builtin, Builtin.len_, run_underlying hM.map, hxv, h1, run_get_map h2, goInt, h4]
  · simp [hle, M.run] at he

theorem run_lookup {T K E : Nat} {k v : Ty} (hf : Fit P H) (hM : MFit P H T K E k v) {b : Nat} {arr : Array MapEntry} {clk : Nat} {es : List (Den (.pair k v))} (h2 : w.heap[b]? = some (.map arr clk)) (hE : Ents k v arr.toList es) (x : Den k) (ok : Bool) :
    (Instr.lookup T (.map (some b)) (keyV k x) ok).run P w = .ok (if ok = true then .tuple #[keyV v ((mapGet k v es x).getD (dflt v)), .bool (mapGet k v es x).isSome] else keyV v ((mapGet k v es x).getD (dflt v))) w := by
  have hf1 := run_find (w := w) hM x arr.toList es hE
  rw [mapFind_find hM.isKey x arr.toList es hE.1.symm] at hf1
  obtain ⟨z, hz1, hz2⟩ := zero_run (w := w) (hf.ty E v hM.val)
  have hz3 : z = keyV v (dflt v) := by
    obtain ⟨i, z', q1, _, _, q2, q3, _, q4⟩ := (hf.ty E v hM.val).info
    have hagv : isAgg v = false := by rw [hM.isv]; rfl
    obtain ⟨y, r1, r2⟩ := q4 hagv
    have : z = z' := by
      simp [zeroValue, typeInfo, q1, q2] at hz1
      exact hz1.symm
    subst this
    rw [q3] at r1
    have hvv := hM.isv
    subst hvv
    simp only [zcells, List.cons.injEq, and_true] at r1
    rw [r2, ← r1]
    rfl
  unfold Instr.lookup
  cases hfi : mapFind k v es x with
  | none =>
    have hg : mapGet k v es x = none := by rw [mapGet, hfi]
    rw [hfi, Option.map_none] at hf1
    simp [run_underlying hM.map, run_get_map h2, run_check hM, hf1, hz1, hg, hz3]
  | some j =>
    obtain ⟨hj, _⟩ := mapFind_lt hfi
    have hg : mapGet k v es x = some (es.getD j (dflt (.pair k v))).2 := by rw [mapGet, hfi]
    have hjl : j < arr.toList.length := by rw [hE.1]; exact hj
    have hval : ((arr.toList[j]?).map (·.val)).getD .nilFunc = keyV v (es.getD j (dflt (.pair k v))).2 := by
      obtain ⟨_, p⟩ := hE.2 j arr.toList[j] es[j] (List.getElem?_eq_getElem hjl) (List.getElem?_eq_getElem hj)
      rw [List.getElem?_eq_getElem hjl, List.getD_eq_getElem?_getD, List.getElem?_eq_getElem hj]
      exact p
    rw [hfi, Option.map_some, hval] at hf1
    simp [run_underlying hM.map, run_get_map h2, run_check hM, hf1, hg]

theorem get_in {k v : Ty} (hv' : v = .int .i64) {arr : Array MapEntry} {es : List (Den (.pair k v))} (h4 : arr.size = es.length) (h5 : ∀ (i : Nat) (m : MapEntry) (e : Den (.pair k v)), arr[i]? = some m → es[i]? = some e → MEnt w S k v m e) (x : Den k) : Rep w S false v ((mapGet k v es x).getD (dflt v)) [keyV v ((mapGet k v es x).getD (dflt v))] := by
  cases hfi : mapFind k v es x with
  | none =>
    have hg : mapGet k v es x = none := by rw [mapGet, hfi]
    rw [hg]
    subst hv'
    simp only [Option.getD_none, Rep, keyV, dflt]
    exact ⟨trivial, by decide, by decide⟩
  | some j =>
    obtain ⟨hj, _⟩ := mapFind_lt hfi
    have hg : mapGet k v es x = some (es.getD j (dflt (.pair k v))).2 := by rw [mapGet, hfi]
    obtain ⟨_, ds, p3, p4⟩ := h5 j arr[j] es[j] (Array.getElem?_eq_getElem (by omega)) (List.getElem?_eq_getElem hj)
    rw [hg, Option.getD_some, List.getD_eq_getElem?_getD, List.getElem?_eq_getElem hj]
    simp only [Option.getD_some]
    subst hv'
    simp only [Rep] at p4 ⊢
    exact ⟨rfl, p4.2⟩

theorem lookup_sound (hf : Fit P H) (hI : Inv w S hv F g) (hl : ∀ c r, gl c = some r → g c = some r) (o : Oper) (ρ : Operand → Value) (T : Nat) (m x : Operand) (ok : Bool) (ho : o.op = .lookup T m x ok) {a z : SV} (hm : VR w S hv g a (ρ m)) (hx : VR w S hv g z (ρ x)) {e : Eff} (he : (lookupE H gl T ok a z).run = some e) :
    Res P ((execOp ρ o).run P w) (Out w S hv F g e) := by
  unfold lookupE at he
  split at he
  rotate_left
  · simp [M.run] at he
  rename_i k v ht
  obtain ⟨K, E, hM⟩ := MFit_of hf ht
  split at he
  rotate_left
  · simp [M.run] at he
  rename_i c es key ha hk
  obtain ⟨rfl, hg, hxv, b, arr, clk, h1, h2, h3, h4, _, h5⟩ := map_at hI hl ha hm
  have hz := datum_spec hk
  subst hz
  obtain ⟨hkv, _⟩ := key_spec hM.isKey hx
  have hvk : IsKeyT v := .inl hM.isv
  have hE := Ents_of hM.isKey hvk h4 h5
  have hrun := run_lookup (w := w) hf hM h2 hE key ok
  have hin := get_in (w := w) (S := S) hM.isv h4 h5 key
  have hVR : VR w S hv g (.v v ((mapGet k v es key).getD (dflt v))) (keyV v ((mapGet k v es key).getD (dflt v))) := by
    rw [VR_v (by rw [hM.isv]; rfl)]
    exact hin
  cases ok with
  | true =>
    simp only [M.run, Option.some.injEq] at he
    subst he
    refine Res_value (v := .tuple #[keyV v ((mapGet k v es key).getD (dflt v)), .bool (mapGet k v es key).isSome]) ?_ (Out.same hI ?_)
    · unfold execOp
      simp only [if_true] at hrun
      simp [ho, hxv, h1, hkv, hrun]
    · refine ⟨[keyV v ((mapGet k v es key).getD (dflt v)), .bool (mapGet k v es key).isSome], rfl, ?_⟩
      simp only [CRep]
      refine ⟨_, _, rfl, hVR, ?_⟩
      exact ⟨_, _, rfl, (VR_bool (w := w) (S := S) (hv := hv) (g := g)).2 rfl, rfl⟩
  | false =>
    simp only [M.run, Option.some.injEq] at he
    subst he
    refine Res_value (v := keyV v ((mapGet k v es key).getD (dflt v))) ?_ (Out.same hI hVR)
    unfold execOp
    simp only [Bool.false_eq_true, if_false] at hrun
    simp [ho, hxv, h1, hkv, hrun]

theorem sameBits_key {k : Ty} (hk : IsKeyT k) (x : Den k) : Instr.sameBits 10000 (keyV k x) (keyV k x) = true := by
  rcases hk with rfl | rfl
  · simp [keyV, Instr.sameBits]
  · simp [keyV, Instr.sameBits]

theorem update_sound (hf : Fit P H) (hI : Inv w S hv F g) (hl : ∀ c r, gl c = some r → g c = some r) (o : Oper) (ρ : Operand → Value) (T : Nat) (m x y : Operand) (ho : o.op = .mapUpdate T m x y) {a z u : SV} (hm : VR w S hv g a (ρ m)) (hx : VR w S hv g z (ρ x)) (hy : VR w S hv g u (ρ y)) {e : Eff} (he : (updateE H gl T a z u).run = some e) :
    Res P ((execOp ρ o).run P w) (Out w S hv F g e) := by
  unfold updateE at he
  split at he
  rotate_left
  · simp [M.run] at he
  rename_i k v ht
  obtain ⟨K, E, hM⟩ := MFit_of hf ht
  split at he
  rotate_left
  · simp [M.run] at he
  rename_i c es key val ha hk hu
  simp only [M.run, Option.some.injEq] at he
  subst he
  obtain ⟨rfl, hg, hxv, b, arr, clk, h1, h2, h3, h4, hfl, h5⟩ := map_at hI hl ha hm
  have hz := datum_spec hk
  subst hz
  have hu' := datum_spec hu
  subst hu'
  obtain ⟨hkv, kc, kp1, kp2⟩ := key_spec hM.isKey hx
  have hvk : IsKeyT v := .inl hM.isv
  obtain ⟨hvv, vc, vp1, vp2⟩ := key_spec hvk hy
  have hE := Ents_of hM.isKey hvk h4 h5
  have hf1 := run_find (w := w) hM key arr.toList es hE
  rw [mapFind_find hM.isKey key arr.toList es hE.1.symm] at hf1
  have hblt : b < w.heap.size := (Array.getElem?_eq_some_iff.1 h2).1
  have ment : ∀ (w' : World) (born : Nat), KeepsC S w w' → MEnt w' S k v { key := keyV k key, val := keyV v val, born := born } (key, val) := fun w' born hkeep =>
    ⟨⟨kc, by rw [← hkv]; exact kp1, Rep_mono hkeep (fun _ h => h) _ _ _ _ kp2⟩, vc, by rw [← hvv]; exact vp1, Rep_mono hkeep (fun _ h => h) _ _ _ _ vp2⟩
  have mold : ∀ (w' : World), KeepsC S w w' → ∀ (i : Nat) (m : MapEntry) (e : Den (.pair k v)), arr[i]? = some m → es[i]? = some e → MEnt w' S k v m e := fun w' hkeep i m e h6 h7 => by
    obtain ⟨⟨cs, p1, p2⟩, ds, p3, p4⟩ := h5 i m e h6 h7
    exact ⟨⟨cs, p1, Rep_mono hkeep (fun _ h => h) _ _ _ _ p2⟩, ds, p3, Rep_mono hkeep (fun _ h => h) _ _ _ _ p4⟩
  have fin : ∀ (arr' : Array MapEntry) (clk' : Nat), arr'.size = (mapSet k v es key val).length → (∀ w', KeepsC S w w' → ∀ (i : Nat) (m : MapEntry) (e : Den (.pair k v)), arr'[i]? = some m → (mapSet k v es key val)[i]? = some e → MEnt w' S k v m e) →
      Out w S hv F g ⟨.unit, [(c, .map k v (mapSet k v es key val))]⟩ (.tuple #[]) { w with heap := w.heap.setIfInBounds b (.map arr' clk') } := fun arr' clk' hn hent =>
    (map_step (b := b) (hd := hv c) (arr := arr') (clk := clk') (w' := { w with heap := w.heap.setIfInBounds b (.map arr' clk') }) hI hfl h1 (fun _ => rfl) (fun n _ hn => by simp [Rg.len] at hn) (.inr h3) (by simp) (by simpa using hblt) (heap_put h2).1 (fun b' _ hne => (heap_put h2).2 b' hne) hn (hent _) ⟨rfl, rfl, rfl, Nat.le_refl _⟩).1
  have hrun0 : (execOp ρ o).run P w = ((Instr.mapUpdate T (.map (some b)) (keyV k key) (keyV v val)).run P w).andThen fun _ w' => .ok .skip w' := by
    unfold execOp
    simp [ho, hxv, h1, hkv, hvv]
  have hupd : (Instr.mapUpdate T (.map (some b)) (keyV k key) (keyV v val)).run P w = .ok () { w with heap := w.heap.setIfInBounds b (match mapFind k v es key with
      | some j => .map (arr.modify j fun e => { e with key := keyV k key, val := keyV v val }) clk
      | none => .map (arr.push { key := keyV k key, val := keyV v val, born := clk }) (clk + 1)) } := by
    unfold Instr.mapUpdate
    simp only [Sem.run_bind, run_underlying hM.map, Result.andThen_ok, run_get_map h2, run_check hM, hf1]
    cases hfi : mapFind k v es key with
    | none => simp only [Option.map_none, run_set_map _ h2]
    | some j =>
      have hkeep : (Instr.keyThatStays (((arr[j]?).map (·.key)).getD (keyV k key)) (keyV k key)).run P w = .ok (keyV k key) w := by
        obtain ⟨hj, hq⟩ := mapFind_lt hfi
        have hja : j < arr.size := by omega
        have hke : (((arr[j]?).map (·.key)).getD (keyV k key)) = keyV k key := by
          obtain ⟨p, _⟩ := hE.2 j arr[j] es[j] (by simp [hja]) (List.getElem?_eq_getElem hj)
          have hb := hq es[j] (List.getElem?_eq_getElem hj)
          rw [eqD_key hM.isKey] at hb
          have hkk := eqb_eq hM.isKey hb
          rw [Array.getElem?_eq_getElem hja]
          simp only [Option.map_some, Option.getD_some]
          rw [p, ← hkk]
        rw [hke]
        unfold Instr.keyThatStays
        simp [sameBits_key hM.isKey]
      simp only [Option.map_some, Sem.run_bind, hkeep, Result.andThen_ok, run_set_map _ h2]
  rw [hrun0, hupd]
  show Out w S hv F g _ _ _
  cases hfi : mapFind k v es key with
  | none =>
    have hset : mapSet k v es key val = es ++ [(key, val)] := by rw [mapSet, hfi]
    refine fin _ _ (by rw [hset]; simp [h4]) fun w' hkeep i m e h6 h7 => ?_
    rw [hset] at h7
    rw [Array.getElem?_push] at h6
    by_cases hi : i = arr.size
    · subst hi
      simp only [if_true, Option.some.injEq] at h6
      rw [h4, List.getElem?_concat_length] at h7
      cases h7
      subst h6
      exact ment w' clk hkeep
    · rw [if_neg hi] at h6
      have hlt := (Array.getElem?_eq_some_iff.1 h6).1
      rw [List.getElem?_append_left (by omega)] at h7
      exact mold w' hkeep i m e h6 h7
  | some j =>
    obtain ⟨hj, _⟩ := mapFind_lt hfi
    have hset : mapSet k v es key val = es.set j (key, val) := by rw [mapSet, hfi]
    refine fin _ _ (by rw [hset]; simp [h4]) fun w' hkeep i m e h6 h7 => ?_
    rw [hset] at h7
    rw [Array.getElem?_modify] at h6
    by_cases hi : j = i
    · subst hi
      rw [if_pos rfl] at h6
      rw [List.getElem?_set_self hj] at h7
      cases h7
      obtain ⟨m0, _, rfl⟩ := Option.map_eq_some_iff.1 h6
      exact ment w' m0.born hkeep
    · rw [if_neg hi] at h6
      rw [List.getElem?_set_ne hi] at h7
      exact mold w' hkeep i m e h6 h7
end
end Go.Rf

namespace Go.Rf

section
variable {P : Program} {H : Hints} {w w' : World} {S : Nat → Prop} {hv : Nat → Value} {F : Nat → Nat → Prop} {g gl gm : Look}

theorem intOf_spec {a : SV} {n : Int} (h : intOf a = some n) : ∃ k, a = .v (.int k) n := by
  cases a <;> simp [intOf] at h
  rename_i t x
  cases t <;> simp [intOf] at h
  subst h
  exact ⟨_, rfl⟩

theorem BVal_of {a : SV} {v : Value} {n : Int} (h : intOf a = some n) (hx : VR w S hv g a v) : BVal (some v) (some n) := by
  obtain ⟨k, rfl⟩ := intOf_spec h
  rw [VR_int] at hx
  exact ⟨k, hx.1⟩

theorem All2_length {α β : Type} {R : α → β → Prop} {as : List α} {bs : List β} (h : All2 R as bs) : as.length = bs.length := by
  induction h with
  | nil => rfl
  | cons _ _ ih => simp [ih]

theorem eff1_sound (hf : Fit P H) (hI : Inv w S hv F g) (hl : ∀ c r, gl c = some r → g c = some r) (o : Oper) (ρ : Operand → Value) (h : FnH) (p : Fns H) {d : Nat} (hd : gl d = none → g d = none) {args : List SV}
    (ha : All2 (fun a v => VR w S hv g a v) args (o.op.operands.toList.map ρ)) {e : Eff} (he : (eff1 H h p o.op o.type d gl args).run = some e) (hnc : ∀ c, o.op ≠ .call c) :
    Res P ((execOp ρ o).run P w) (Out w S hv F g e) := by
  have hfail : ∀ {e : Eff}, (M.fail : M Eff).run = some e → False := fun h => by simp [M.run] at h
  cases ho : o.op with
  | move x =>
    rw [ho] at ha he
    cases ha with
    | cons h1 h2 =>
      cases h2
      simp only [eff1, M.run, Option.some.injEq] at he
      subst he
      exact move_sound hI o ρ x (.inl ho) h1
  | assign x =>
    rw [ho] at ha he
    cases ha with
    | cons h1 h2 =>
      cases h2
      simp only [eff1, M.run, Option.some.injEq] at he
      subst he
      exact move_sound hI o ρ x (.inr ho) h1
  | pick c x y =>
    rw [ho] at ha he
    cases ha with
    | cons h1 h2 =>
      cases h2 with
      | cons h2 h3 =>
        cases h3 with
        | cons h3 h4 =>
          cases h4
          rename_i a1 a2 a3
          simp only [eff1] at he
          split at he
          · rename_i b
            simp only [M.run] at he
            have := pick_sound (P := P) (H := H) hI o ρ c x y ho h1 h2 h3
            cases b <;> simp only [cond_true, cond_false, Option.some.injEq] at he <;> subst he <;> exact this
          · exact (hfail he).elim
  | alloc E =>
    rw [ho] at ha he
    cases ha
    simp only [eff1] at he
    split at he
    · rename_i t ht
      obtain ⟨h1, he⟩ := fresh_run he
      simp only [M.run, Option.some.injEq] at he
      subst he
      exact alloc_sound hf hI o ρ E ho ht (hd h1)
    · rename_i ht
      split at he
      · rename_i hC
        obtain ⟨h1, he⟩ := fresh_run he
        simp only [M.run, Option.some.injEq] at he
        subst he
        exact allocC_sound hf hI o ρ E ho ht hC (hd h1)
      · exact (hfail he).elim
  | box E x =>
    rw [ho] at ha he
    cases ha with
    | cons h1 h2 =>
      cases h2
      simp only [eff1] at he
      split at he
      · rename_i n m hn hm
        split at he
        · obtain ⟨h3, he⟩ := fresh_run he
          simp only [M.run, Option.some.injEq] at he
          subst he
          exact box_sound hI o ρ E x ho hm (typed_VR h1) (hd h3)
        · exact (hfail he).elim
      · exact (hfail he).elim
  | build E ps =>
    rw [ho] at ha he
    simp only [Op.operands, List.map_map] at ha
    simp only [eff1] at he
    split at he
    · rename_i t ht
      split at he
      · rename_i b hb
        split at he
        · rename_i hag
          simp only [Bool.and_eq_true, decide_eq_true_eq] at hag
          simp only [M.run, Option.some.injEq] at he
          subst he
          have hft := hf.ty E t ht
          have hu := hft.under
          have hus : SFit P H E t ∨ AFit P H E t := by
            unfold UFit at hu
            cases t <;> simp [isAgg] at hag <;> exact hu
          have hlen : args.length = ps.toList.length := by
            have := All2_length ha
            simpa using this
          rcases hus with hus | hus
          · obtain ⟨hnz, fs, h1, h2, h3, h4⟩ := hus
            obtain ⟨n, hn⟩ : ∃ n, H.nf E = n + 1 := ⟨H.nf E - 1, by omega⟩
            have hb' : buildParts t (H.nf E) (parts ps.toList args) (.v t (dflt t)) = some b := by rw [hn] at hb ⊢; exact hb
            have h0 : ∃ r0, fpath t (H.nf E) 0 = some r0 := by
              obtain ⟨q, u, h5, _⟩ := h4 0 (fs[0]'(by omega)) (by simp)
              exact ⟨_, h5⟩
            obtain ⟨r0, h0⟩ := h0
            exact build_sound hf hI o ρ E ps ho ht hag.1 (as := args) hlen ha hb' hag.2 h0
          · have hb' : buildParts t 2 (parts ps.toList args) (.v t (dflt t)) = some b := by rw [hus.1] at hb; exact hb
            exact build_arr hf hI o ρ E ps ho ht hus (as := args) hlen ha hb' hag.2
        · exact (hfail he).elim
      · exact (hfail he).elim
    · exact (hfail he).elim
  | buildSlice E n ps =>
    rw [ho] at ha he
    simp only [Op.operands, List.map_map] at ha
    simp only [eff1] at he
    split at he
    · rename_i t ht
      split at he
      · rename_i l hl2
        split at he
        · rename_i hn
          simp only [Bool.and_eq_true, decide_eq_true_eq, beq_iff_eq] at hn
          have hfr := fresh_run he
          exact buildSlice_sound hf hI hl o ρ E n ps ho ht hl2 hn.1 hn.2 ha (hd hfr.1) he
        · exact (hfail he).elim
      · exact (hfail he).elim
    · exact (hfail he).elim
  | load E x =>
    rw [ho] at ha he
    cases ha with
    | cons h1 h2 =>
      cases h2
      simp only [eff1] at he
      split at he
      · rename_i ag hag
        exact load_sound hf hI hl o ρ E x ho hag hd h1 he
      · exact (hfail he).elim
  | store E x y =>
    rw [ho] at ha he
    cases ha with
    | cons h1 h2 =>
      cases h2 with
      | cons h2 h3 =>
        cases h3
        simp only [eff1] at he
        split at he
        · rename_i ag hag
          exact store_sound hf hI hl o ρ E x y ho hag h1 (typed_VR h2) he
        · exact (hfail he).elim
  | nilCheck x =>
    rw [ho] at ha he
    cases ha with
    | cons h1 h2 =>
      cases h2
      simp only [eff1] at he
      split at he
      all_goals try exact (hfail he).elim
      all_goals
        simp only [M.run, Option.some.injEq] at he
        subst he
        exact nilCheck_sound hI o ρ x ho h1 (by simp)
  | binOp op T x y U =>
    rw [ho] at ha he
    cases ha with
    | cons h1 h2 =>
      cases h2 with
      | cons h2 h3 =>
        cases h3
        simp only [eff1] at he
        exact bin_sound hf hI hl o ρ op T U x y ho h1 h2 he
  | unOp op T x =>
    rw [ho] at ha he
    cases ha with
    | cons h1 h2 =>
      cases h2
      simp only [eff1] at he
      exact un_sound hI o ρ op T x ho h1 he
  | convert U E x =>
    rw [ho] at ha he
    cases ha with
    | cons h1 h2 =>
      cases h2
      simp only [eff1] at he
      split at he
      · rename_i k n k' t hE hU
        simp only [M.run, Option.some.injEq] at he
        subst he
        exact convert_sound hf hI o ρ U E x ho h1 (by rw [hU]; simp) hE
      · exact (hfail he).elim
  | makeFunc fn first caps =>
    rw [ho] at ha he
    simp only [eff1] at he
    split at he
    · rename_i f hfst
      simp only [M.run, Option.some.injEq] at he
      subst he
      have : first = #[] := by apply Array.ext'; simpa using hfst
      subst this
      exact makeFunc_sound hI o ρ f caps ho (by simpa [Op.operands] using ha)
    · exact (hfail he).elim
  | makeSlice E l c =>
    rw [ho] at ha he
    cases ha with
    | cons h1 h2 =>
      cases h2 with
      | cons h2 h3 =>
        cases h3
        simp only [eff1] at he
        split at he
        · rename_i t n m hE
          simp only [M.run] at he
          cases e1 : decide (0 ≤ (n : Int)) <;> simp only [e1, cond_true, cond_false, reduceCtorEq] at he
          cases e2 : decide ((n : Int) ≤ (lim : Int)) <;> simp only [e2, cond_true, cond_false, reduceCtorEq] at he
          cases e3 : decide ((n : Int) ≤ (m : Int)) <;> simp only [e3, cond_true, cond_false, reduceCtorEq] at he
          cases e4 : decide ((m : Int) ≤ (lim : Int)) <;> simp only [e4, cond_true, cond_false, reduceCtorEq] at he
          obtain ⟨h5, he⟩ := fresh_run he
          simp only [M.run, Option.some.injEq] at he
          subst he
          exact makeSlice_sound hf hI o ρ E l c ho hE h1 h2 (of_decide_eq_true e1) (of_decide_eq_true e3) (of_decide_eq_true e4) (hd h5)
        · exact (hfail he).elim
  | slice T x lo hi mx =>
    rw [ho] at ha he
    simp only [eff1] at he
    split at he
    · rename_i u hT
      simp only [Op.operands] at ha
      split at he
      · rename_i a
        cases ha with
        | cons h1 h2 => exact slice_sound hf hI hl o ρ T x none none ho hT h1 (lx := none) (hx' := none) trivial trivial he
      · rename_i l a b
        cases ha with
        | cons h1 h2 =>
          cases h2 with
          | cons h2 h3 =>
            split at he
            · rename_i n hn
              exact slice_sound hf hI hl o ρ T x (some l) none ho hT h1 (lx := some n) (hx' := none) (BVal_of hn h2) trivial he
            · exact (hfail he).elim
      · rename_i r a b
        cases ha with
        | cons h1 h2 =>
          cases h2 with
          | cons h2 h3 =>
            split at he
            · rename_i n hn
              exact slice_sound hf hI hl o ρ T x none (some r) ho hT h1 (lx := none) (hx' := some n) trivial (BVal_of hn h2) he
            · exact (hfail he).elim
      · rename_i l r a b c
        cases ha with
        | cons h1 h2 =>
          cases h2 with
          | cons h2 h3 =>
            cases h3 with
            | cons h3 h4 =>
              split at he
              · rename_i n m hn hm
                exact slice_sound hf hI hl o ρ T x (some l) (some r) ho hT h1 (BVal_of hn h2) (BVal_of hm h3) he
              · exact (hfail he).elim
      · exact (hfail he).elim
    · exact (hfail he).elim
  | fieldAddr E x i =>
    rw [ho] at ha he
    cases ha with
    | cons h1 h2 =>
      cases h2
      simp only [eff1] at he
      split at he
      · rename_i t ht
        split at he
        · rename_i q u hq
          split at he
          · simp only [M.run, Option.some.injEq] at he
            subst he
            exact fieldAddr_ptr hf hI o ρ E i x ho ht hq h1
          · rename_i v y
            split at he
            · rename_i y' hc
              split at he
              · rename_i e' hg
                simp only [M.run, Option.some.injEq] at he
                subst he
                have := cast_spec hc
                simp only [Sigma.mk.injEq] at this
                obtain ⟨rfl, hh⟩ := this
                have := eq_of_heq hh
                subst this
                exact fieldAddr_sp hf hI o ρ E i x ho ht hq h1 hg
              · exact (hfail he).elim
            · exact (hfail he).elim
          · exact (hfail he).elim
        · exact (hfail he).elim
      · exact (hfail he).elim
  | field E x i =>
    rw [ho] at ha he
    cases ha with
    | cons h1 h2 =>
      cases h2
      simp only [eff1] at he
      split at he
      · rename_i t ht
        split at he
        · rename_i q u hq
          split at he
          · rename_i b hb
            split at he
            · rename_i hg
              simp only [M.run, Option.some.injEq] at he
              subst he
              exact field_sound hf hI o ρ E i x ho ht hq h1 hb (of_decide_eq_true hg)
            · exact (hfail he).elim
          · exact (hfail he).elim
        · exact (hfail he).elim
      · exact (hfail he).elim
  | indexAddr T x i =>
    rw [ho] at ha he
    cases ha with
    | cons h1 h2 =>
      cases h2 with
      | cons h2 h3 =>
        cases h3
        simp only [eff1] at he
        split at he
        · rename_i u n hT hn
          obtain ⟨k, rfl⟩ := intOf_spec hn
          exact index_sound hf hI hl o ρ T x i ho hT h1 h2 he
        · rename_i n hT hn
          obtain ⟨k, rfl⟩ := intOf_spec hn
          split at he
          · rename_i c r h0
            have hA := AFit_of hf hT h0
            simp only [M.run] at he
            by_cases e0 : n = 0
            · subst e0
              simp only [beq_self_eq_true, cond_true, Option.some.injEq] at he
              subst he
              exact indexArr_sound hf hI o ρ T x i ho hA h1 h2 (.inl ⟨rfl, rfl⟩)
            · have b0 : (n == 0) = false := by rw [beq_eq_false_iff_ne]; exact e0
              by_cases e1 : n = 1
              · subst e1
                simp [M.run] at he
                subst he
                exact indexArr_sound hf hI o ρ T x i ho hA h1 h2 (.inr ⟨rfl, rfl⟩)
              · have b1 : (n == 1) = false := by rw [beq_eq_false_iff_ne]; exact e1
                simp [b0, b1, M.run] at he
          · exact (hfail he).elim
        · exact (hfail he).elim
  | extract x i =>
    rw [ho] at ha he
    cases ha with
    | cons h1 h2 =>
      cases h2
      simp only [eff1] at he
      split at he
      · rename_i b c hd'
        have := extract_sound (P := P) hI o ρ i x ho h1 hd'
        split at he
        · rename_i z hz
          simp only [M.run, Option.some.injEq] at he
          subst he
          simpa [hz] using this
        · rename_i hz
          simp only [M.run, Option.some.injEq] at he
          subst he
          simpa [hz] using this
      · exact (hfail he).elim
  | makeMap T r =>
    rw [ho] at ha he
    cases r with
    | some r => simp [eff1, M.run] at he
    | none =>
      cases ha
      simp only [eff1] at he
      split at he
      · rename_i k v hm
        obtain ⟨h1, h2⟩ := fresh_run he
        simp only [M.run, Option.some.injEq] at h2
        subst h2
        exact makeMap_sound hf hI o ρ T ho hm (hd h1)
      · exact (hfail he).elim
  | lookup T m x ok =>
    rw [ho] at ha he
    cases ha with
    | cons h1 h2 =>
      cases h2 with
      | cons h2 h3 =>
        cases h3
        simp only [eff1] at he
        exact lookup_sound hf hI hl o ρ T m x ok ho h1 h2 he
  | mapUpdate T m x y =>
    rw [ho] at ha he
    cases ha with
    | cons h1 h2 =>
      cases h2 with
      | cons h2 h3 =>
        cases h3 with
        | cons h3 h4 =>
          cases h4
          simp only [eff1] at he
          exact update_sound hf hI hl o ρ T m x y ho h1 h2 h3 he
  | call c => exact absurd ho (hnc c)
  | _ => rw [ho] at he; simp [eff1, M.run] at he
end
end Go.Rf

namespace Go.Rf

section
variable {P : Program} {H : Hints} {w w' : World} {S : Nat → Prop} {hv : Nat → Value} {F : Nat → Nat → Prop} {g gl gm : Look}

theorem toList_one {α : Type} {a : Array α} {x : α} (h : a.toList = [x]) : a = #[x] := by apply Array.ext'; simpa using h
theorem toList_two {α : Type} {a : Array α} {x y : α} (h : a.toList = [x, y]) : a = #[x, y] := by apply Array.ext'; simpa using h

theorem All2_one {α β γ : Type} {R : α → β → Prop} {f : γ → β} {a : α} {l : List γ} (h : All2 R [a] (l.map f)) : ∃ x, l = [x] ∧ R a (f x) := by
  match l, h with
  | [x], .cons h1 .nil => exact ⟨x, rfl, h1⟩

theorem All2_two {α β γ : Type} {R : α → β → Prop} {f : γ → β} {a b : α} {l : List γ} (h : All2 R [a, b] (l.map f)) : ∃ x y, l = [x, y] ∧ R a (f x) ∧ R b (f y) := by
  match l, h with
  | [x, y], .cons h1 (.cons h2 .nil) => exact ⟨x, y, rfl, h1, h2⟩

theorem builtin_sound (hf : Fit P H) (hI : Inv w S hv F g) (hl : ∀ c r, gl c = some r → g c = some r) (o : Oper) (ρ : Operand → Value) (b : Builtin) (xs : Array Operand) (ts : Array TypeId) (ho : o.op = .call { callee := .builtin b, args := xs, argTypes := ts }) {d : Nat} (hd : gl d = none → g d = none) {args : List SV}
    (ha : All2 (fun a v => VR w S hv g a v) args (xs.toList.map ρ)) {frz : Bool} {e : Eff} (he : (builtinE H b ts.toList gl d frz args).run = some e) : Res P ((execOp ρ o).run P w) (Out w S hv F g e) := by
  have hfail : ∀ {e : Eff}, (M.fail : M Eff).run = some e → False := fun h => by simp [M.run] at h
  unfold builtinE at he
  split at he
  · -- len
    obtain ⟨x, hx, h1⟩ := All2_one ha
    split at he
    · rename_i T hT
      rw [toList_one hx, toList_one hT] at ho
      split at he
      · rename_i t ht
        split at he
        · rename_i n hn
          simp only [M.run, Option.some.injEq] at he
          subst he
          exact len_sound hf hI hl o ρ T x ho ht h1 hn
        · exact (hfail he).elim
      · exact mapLen_sound hf hI hl o ρ T x ho h1 he
      · exact (hfail he).elim
    · exact (hfail he).elim
  · -- cap
    obtain ⟨x, hx, h1⟩ := All2_one ha
    split at he
    · rename_i T hT
      rw [toList_one hx, toList_one hT] at ho
      split at he
      · rename_i t ht
        simp only [M.run, Option.some.injEq] at he
        subst he
        exact cap_sound hf hI o ρ T x ho ht h1 (.inl rfl)
      · rename_i t u y ht
        simp only [M.run] at he
        cases hy : y.1 with
        | false => simp [hy] at he
        | true =>
          simp only [hy, cond_true, Option.some.injEq] at he
          subst he
          exact cap_sound hf hI o ρ T x ho ht h1 (.inr ⟨u, y, rfl, hy⟩)
      · exact (hfail he).elim
    · exact (hfail he).elim
  · -- append
    rename_i a b
    obtain ⟨x, y, hx, h1, h2⟩ := All2_two ha
    split at he
    · rename_i T U hT
      rw [toList_two hx, toList_two hT] at ho
      split at he
      · rename_i t k hTt hU
        split at he
        · exact append_sound hf hI hl o ρ T U x y ho hTt (.inl ⟨_, _, _, hU, rfl⟩) h1 h2 hd he
        · exact (hfail he).elim
      · rename_i t u hTt hU
        split at he
        · exact (hfail he).elim
        · rename_i hne htu
          have htu : T = U := by simpa using htu
          exact append_sound hf hI hl o ρ T U x y ho hTt (.inr ⟨htu.symm, fun k n h => hne k n h⟩) h1 h2 hd he
        · exact (hfail he).elim
      · exact (hfail he).elim
    · exact (hfail he).elim
  · -- max
    rename_i k x r
    split at he
    · rename_i a hm
      simp only [M.run, Option.some.injEq] at he
      subst he
      match hxs : xs.toList, ha with
      | y :: ys, .cons h1 h2 =>
        rw [VR_int] at h1
        obtain ⟨m, e1, e2, e3⟩ := minmax_sound (P := P) r _ x a hm h2 h1.2
        subst e1
        simp only [if_true] at e3
        obtain ⟨cs, hb⟩ := builtin_exec (P := P) (w := w) o ρ _ _ _ ho
        refine Res_value (v := .int k m) ?_ (int_out hI e2)
        rw [hb]
        have hm2 : (Builtin.max_ ts o.type (xs.map ρ)).run P w = .ok (.int k m) w := by
          unfold Builtin.max_
          have : (xs.map ρ).toList = ρ y :: ys.map ρ := by rw [Array.toList_map, hxs]; rfl
          rw [this]
          simp only
          rw [h1.1]
          exact e3
        simp [builtin, hm2]
    · exact (hfail he).elim
  · -- min
    rename_i k x r
    split at he
    · rename_i a hm
      simp only [M.run, Option.some.injEq] at he
      subst he
      match hxs : xs.toList, ha with
      | y :: ys, .cons h1 h2 =>
        rw [VR_int] at h1
        obtain ⟨m, e1, e2, e3⟩ := minmax_sound (P := P) r _ x a hm h2 h1.2
        subst e1
        simp only [Bool.false_eq_true, if_false] at e3
        obtain ⟨cs, hb⟩ := builtin_exec (P := P) (w := w) o ρ _ _ _ ho
        refine Res_value (v := .int k m) ?_ (int_out hI e2)
        rw [hb]
        have hm2 : (Builtin.min_ ts o.type (xs.map ρ)).run P w = .ok (.int k m) w := by
          unfold Builtin.min_
          have : (xs.map ρ).toList = ρ y :: ys.map ρ := by rw [Array.toList_map, hxs]; rfl
          rw [this]
          simp only
          rw [h1.1]
          exact e3
        simp [builtin, hm2]
    · exact (hfail he).elim
  · -- clear
    obtain ⟨x, hx, h1⟩ := All2_one ha
    split at he
    · rename_i c sz lo hi T hT
      rw [toList_one hx, toList_one hT] at ho
      split at he
      · rename_i t dp n ys u hc hTt
        split at he
        · rename_i hch
          simp only [Bool.and_eq_true, decide_eq_true_eq, beq_iff_eq] at hch
          obtain ⟨⟨rfl, rfl⟩, hft⟩ := hch
          simp only [M.run, Option.some.injEq] at he
          subst he
          exact clear_sound hf hI o ρ T x ho hTt (hl _ _ hc) hft h1
        · exact (hfail he).elim
      · exact (hfail he).elim
    · exact (hfail he).elim
  · -- copy
    rename_i a b
    obtain ⟨x, y, hx, h1, h2⟩ := All2_two ha
    have hsrc : ∀ (e1 : D) (l : List Nat) (t : Ty) (z : Den (.sl t)), view gl b = some (e1, l) → e1.to (.sl t) = some z → Rep w (fun b' => S b' ∨ FL F l b') false (.sl t) z [ρ y] := by
      intro e1 l t z hv hz
      have := D_to hz
      subst this
      rw [VR_cell (view_sl hv)] at h2
      exact view_sound hI hl b _ l _ hv (fun _ h => .inl h) (fun _ h => .inr h) h2
    split at he
    · rename_i c sz lo hi e1 l T U hview hT
      rw [toList_two hx, toList_two hT] at ho
      split at he
      · rename_i t dp n ys u hc hTt
        split at he
        · rename_i z hz hch
          simp only [Bool.and_eq_true, decide_eq_true_eq, beq_iff_eq] at hch
          obtain ⟨⟨rfl, rfl⟩, hft⟩ := hch
          simp only [M.run, Option.some.injEq] at he
          subst he
          rw [VR_cell rfl] at h1
          simp only [CRep, List.cons.injEq, and_true] at h1
          obtain ⟨_, v', rfl, hs⟩ := h1
          exact copy_core hf hI o ρ T U x y ho hTt (hl _ _ hc) hft hs (hsrc _ _ _ _ hview hz)
        · exact (hfail he).elim
      · exact (hfail he).elim
    · rename_i c e1 l T U hview hT
      rw [toList_two hx, toList_two hT] at ho
      split at he
      · rename_i t dp n ys u hc hTt
        split at he
        · rename_i z hz hch
          simp only [Bool.and_eq_true, decide_eq_true_eq] at hch
          obtain ⟨rfl, hft⟩ := hch
          simp only [M.run, Option.some.injEq] at he
          subst he
          have hr := hI.rep c _ (hl _ _ hc)
          simp only [GRep] at hr
          have hs := RowB_whole hr
          rw [← ref_val h1] at hs
          have := copy_core hf hI o ρ T U x y ho hTt (hl _ _ hc) hft (by rw [← ref_val h1]; exact hs) (hsrc _ _ _ _ hview hz)
          simpa using this
        · exact (hfail he).elim
      · exact (hfail he).elim
    · exact (hfail he).elim
  · exact (hfail he).elim

theorem carry_le (x y c : Int) (h1 : x ≤ 18446744073709551615) (h2 : y ≤ 18446744073709551615) (h3 : c ≤ 1) : (x + y + c) / 18446744073709551616 ≤ 18446744073709551615 := by omega

theorem ext_sound (hf : Fit P H) (hI : Inv w S hv F g) {f : Nat} {ef : ExtF} (hx : H.extF f = some ef) {args : SV} {vs : List Value} (ha : CRep w S hv g true args vs) {e : Eff} (he : (extE ef args).run = some e) :
    Res P ((callFunc f vs.toArray).run P w) (Out w S hv F g e) := by
  unfold extE at he
  split at he
  · rename_i x y c
    simp only [M.run] at he
    cases hc : decide ((c : Int) ≤ 1) with
    | false => simp [hc] at he
    | true =>
      simp only [hc, cond_true, Option.some.injEq] at he
      subst he
      have hc := of_decide_eq_true hc
      have hcell : ∀ {k : IntKind} {n : Int} {v : Value}, V0 (CRep w S hv g false (.v (.int k) n)) (.v (.int k) n) v → v = .int k n ∧ k.min ≤ n ∧ n ≤ k.max := by
        intro k n v h
        exact VR_int.1 h
      simp only [CRep] at ha
      obtain ⟨p1, r1, rfl, h1, p2, r2, rfl, h2, p3, r3, rfl, h3, rfl⟩ := ha
      obtain ⟨rfl, hx1, hx2⟩ := hcell h1
      obtain ⟨rfl, hy1, hy2⟩ := hcell h2
      obtain ⟨rfl, hc1, hc2⟩ := hcell h3
      have e0 : IntKind.u64.min = 0 := rfl
      have e1 : IntKind.u64.max = 18446744073709551615 := rfl
      rw [e0] at hx1 hy1 hc1
      rw [e1] at hx2 hy2 hc2
      have hrun := hf.add64 f hx x y c w hx1 hy1 hc1 hc
      refine Res_value hrun (Out.same hI ?_)
      have hz : ∀ n : Int, 0 ≤ n → n ≤ 18446744073709551615 → V0 (CRep w S hv g false (.v (.int .u64) n)) (.v (.int .u64) n) (.int .u64 n) := fun n h1 h2 => VR_int.2 ⟨rfl, by rw [e0, e1]; exact ⟨h1, h2⟩⟩
      refine ⟨[.int .u64 _, .int .u64 _], rfl, ?_⟩
      simp only [CRep]
      refine ⟨_, _, rfl, hz _ ?_ ?_, _, _, rfl, hz _ ?_ ?_, rfl⟩
      · exact Int.emod_nonneg _ (by decide)
      · have := Int.emod_lt_of_pos (x + y + c) (show (0 : Int) < 18446744073709551616 by decide); omega
      · exact Int.ediv_nonneg (by omega) (by decide)
      · exact carry_le x y c hx2 hy2 hc
  · simp [M.run] at he
end
end Go.Rf
