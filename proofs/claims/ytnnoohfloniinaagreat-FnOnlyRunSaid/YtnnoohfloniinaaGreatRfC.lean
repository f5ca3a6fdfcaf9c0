/- An evaluator over the code of the given program, and its soundness: part 3. -/
import Derived.Test.YtnnoohfloniinaaGreatRfB
set_option linter.all false
namespace Go.Rf

section
variable {P : Program} {H : Hints} {w w' : World} {S : Nat → Prop} {hv : Nat → Value} {F : Nat → Nat → Prop} {g gl gm : Look}

/-- what comes of a shape: s out of acc gave ds and acc'; al, fl: headers and footprints of the new regions -/
structure Down (w : World) (S : Nat → Prop) (hv : Nat → Value) (F : Nat → Nat → Prop) (g gl : Look) (ids : List Nat) (acc acc' : Acc) (rs : List (Nat × Rg)) (al : Nat → Value) (fl : Nat → Nat → Prop)
    (R : (Nat → Prop) → (Nat → Value) → Look → Prop) : Prop where
  mpkeep : ∀ e ∈ acc.mp, e ∈ acc'.mp
  vwkeep : ∀ k ∈ acc.vw, k ∈ acc'.vw
  mpnew : ∀ e ∈ acc'.mp, e ∈ acc.mp ∨ (e.1 ∈ ids ∧ (e.2.2 = true → al e.1 = hv e.2.1) ∧ (∃ r, gl e.2.1 = some r ∧ r.owns = true))
  vwnew : ∀ k ∈ acc'.vw, k ∈ acc.vw ∨ gl k ≠ none
  rsids : rs.map (·.1) = ids
  rsown : ∀ e ∈ rs, e.2.owns = true
  flin : ∀ k b, fl k b → k ∈ ids ∧ ∃ r f, (k, r, f) ∈ acc'.mp ∧ F r b
  main : ∀ (S0 : Nat → Prop) (hv0 : Nat → Value) (F0 : Nat → Nat → Prop) (g0 : Look), (∀ b, S b → S0 b) → (∀ b, FL F acc'.vw b → S0 b) → (∀ k ∈ ids, hv0 k = al k) → (∀ k ∈ ids, ∀ b, fl k b → F0 k b) →
    (∀ e ∈ acc'.mp, e.1 ∈ ids → ∀ b, F e.2.1 b → ¬ fl e.1 b → S0 b) → (∀ e ∈ rs, g0 e.1 = some e.2) → (∀ e ∈ acc.mp, e.2.2 = true → hv0 e.1 = hv e.2.1 ∧ g0 e.1 ≠ none) →
    R S0 hv0 g0 ∧ ∀ e ∈ rs, GRep w S0 hv0 g0 F0 e.1 e.2

theorem Acc.has_mem {acc : Acc} {c r : Nat} (h : acc.has c r = true) : (c, r, true) ∈ acc.mp := by
  unfold Acc.has at h
  rw [List.any_eq_true] at h
  obtain ⟨⟨a, b, f⟩, hm, he⟩ := h
  simp at he
  obtain ⟨⟨rfl, rfl⟩, rfl⟩ := he
  exact hm

/-- nothing is taken out -/
theorem Down.same {acc : Acc} {R : (Nat → Prop) → (Nat → Value) → Look → Prop} (h : ∀ (S0 : Nat → Prop) (hv0 : Nat → Value) (g0 : Look), (∀ b, S b → S0 b) → (∀ e ∈ acc.mp, e.2.2 = true → hv0 e.1 = hv e.2.1 ∧ g0 e.1 ≠ none) → R S0 hv0 g0) : Down w S hv F g gl [] acc acc [] hv (fun _ _ => False) R where
  mpkeep := fun _ h => h
  vwkeep := fun _ h => h
  mpnew := fun _ h => .inl h
  vwnew := fun _ h => .inl h
  rsids := rfl
  rsown := fun e he => by cases he
  flin := fun _ _ h => h.elim
  main := fun S0 hv0 F0 g0 h1 _ _ _ _ _ h2 => ⟨h S0 hv0 g0 h1 h2, fun e he => by cases he⟩

/-- something is seen -/
theorem Down.see {acc : Acc} {l : List Nat} (hl : ∀ k ∈ l, gl k ≠ none) {R : (Nat → Prop) → (Nat → Value) → Look → Prop} (h : ∀ (S0 : Nat → Prop) (hv0 : Nat → Value) (g0 : Look), (∀ b, S b → S0 b) → (∀ b, FL F l b → S0 b) → R S0 hv0 g0) : Down w S hv F g gl [] acc (acc.see l) [] hv (fun _ _ => False) R where
  mpkeep := fun _ h => h
  vwkeep := fun _ h => List.mem_append_right _ h
  mpnew := fun _ h => .inl h
  vwnew := fun k hk => by
    rcases List.mem_append.1 hk with hk | hk
    · exact .inr (hl k hk)
    · exact .inl hk
  rsids := rfl
  rsown := fun e he => by cases he
  flin := fun _ _ h => h.elim
  main := fun S0 hv0 F0 g0 h1 h3 _ _ _ _ h2 => ⟨h S0 hv0 g0 h1 (fun b ⟨k, hk, hb⟩ => h3 b ⟨k, List.mem_append_left _ hk, hb⟩), fun e he => by cases he⟩

/-- one after the other -/
theorem Down.both {ids1 ids2 : List Nat} {acc acc1 acc2 : Acc} {rs1 rs2 : List (Nat × Rg)} {al1 al2 : Nat → Value} {fl1 fl2 : Nat → Nat → Prop} {R1 R2 : (Nat → Prop) → (Nat → Value) → Look → Prop}
    (h1 : Down w S hv F g gl ids1 acc acc1 rs1 al1 fl1 R1) (h2 : Down w S hv F g gl ids2 acc1 acc2 rs2 al2 fl2 R2) (hnd : (ids1 ++ ids2).Nodup) :
    ∃ al fl, Down w S hv F g gl (ids1 ++ ids2) acc acc2 (rs1 ++ rs2) al fl (fun S0 hv0 g0 => R1 S0 hv0 g0 ∧ R2 S0 hv0 g0) := by
  classical
  have hnd' := List.nodup_append.1 hnd
  refine ⟨fun k => if k ∈ ids1 then al1 k else al2 k, fun k b => if k ∈ ids1 then fl1 k b else fl2 k b, ?_⟩
  have hno : ∀ k, k ∈ ids2 → k ∉ ids1 := fun k hk hk' => hnd'.2.2 k hk' k hk rfl
  refine ⟨fun e he => h2.mpkeep e (h1.mpkeep e he), fun k hk => h2.vwkeep k (h1.vwkeep k hk), ?_, ?_, by rw [List.map_append, h1.rsids, h2.rsids], ?_, ?_, ?_⟩
  · intro e he
    rcases h2.mpnew e he with he | ⟨k1, k2, k3⟩
    · rcases h1.mpnew e he with he | ⟨k1, k2, k3⟩
      · exact .inl he
      · exact .inr ⟨List.mem_append_left _ k1, fun hf => by simp only [k1, if_true]; exact k2 hf, k3⟩
    · exact .inr ⟨List.mem_append_right _ k1, fun hf => by simp only [hno _ k1, if_false]; exact k2 hf, k3⟩
  · intro k hk
    rcases h2.vwnew k hk with hk | hk
    · exact h1.vwnew k hk
    · exact .inr hk
  · intro e he
    rcases List.mem_append.1 he with he | he
    · exact h1.rsown e he
    · exact h2.rsown e he
  · intro k b hb
    by_cases hk : k ∈ ids1
    · simp only [hk, if_true] at hb
      obtain ⟨_, r, f, m1, m2⟩ := h1.flin k b hb
      exact ⟨List.mem_append_left _ hk, r, f, h2.mpkeep _ m1, m2⟩
    · simp only [hk, if_false] at hb
      obtain ⟨m0, r, f, m1, m2⟩ := h2.flin k b hb
      exact ⟨List.mem_append_right _ m0, r, f, m1, m2⟩
  · intro S0 hv0 F0 g0 q1 q2 q3 q4 q5 q6 q7
    have hg1 : ∀ k ∈ ids1, g0 k ≠ none := by
      intro k hk
      rw [← h1.rsids] at hk
      obtain ⟨e, he, rfl⟩ := List.mem_map.1 hk
      rw [q6 e (List.mem_append_left _ he)]
      simp
    obtain ⟨r1, r2⟩ := h1.main S0 hv0 F0 g0 q1 (fun b ⟨k, hk, hb⟩ => q2 b ⟨k, h2.vwkeep k hk, hb⟩) (fun k hk => by rw [q3 k (List.mem_append_left _ hk)]; simp [hk]) (fun k hk b hb => q4 k (List.mem_append_left _ hk) b (by simpa [hk] using hb))
      (fun e he hi b hb hn => q5 e (h2.mpkeep e he) (List.mem_append_left _ hi) b hb (by simpa [hi] using hn)) (fun e he => q6 e (List.mem_append_left _ he)) q7
    obtain ⟨r3, r4⟩ := h2.main S0 hv0 F0 g0 q1 q2 (fun k hk => by rw [q3 k (List.mem_append_right _ hk)]; simp [hno k hk]) (fun k hk b hb => q4 k (List.mem_append_right _ hk) b (by simpa [hno k hk] using hb))
      (fun e he hi b hb hn => q5 e he (List.mem_append_right _ hi) b hb (by simpa [hno _ hi] using hn)) (fun e he => q6 e (List.mem_append_right _ he)) (fun e he hf => by
        rcases h1.mpnew e he with he' | ⟨k1, k2, k3⟩
        · exact q7 e he' hf
        · refine ⟨?_, hg1 _ k1⟩
          rw [q3 _ (List.mem_append_left _ k1)]
          simp only [k1, if_true]
          exact k2 hf)
    refine ⟨⟨r1, r3⟩, fun e he => ?_⟩
    rcases List.mem_append.1 he with he | he
    · exact r2 e he
    · exact r4 e he

theorem Down.weaken {ids : List Nat} {acc acc1 : Acc} {rs : List (Nat × Rg)} {al : Nat → Value} {fl : Nat → Nat → Prop} {R R' : (Nat → Prop) → (Nat → Value) → Look → Prop}
    (h : Down w S hv F g gl ids acc acc1 rs al fl R) (hR : ∀ S0 hv0 g0, R S0 hv0 g0 → R' S0 hv0 g0) : Down w S hv F g gl ids acc acc1 rs al fl R' :=
  { h with main := fun S0 hv0 F0 g0 q1 q2 q3 q4 q5 q6 q7 => let ⟨a, b⟩ := h.main S0 hv0 F0 g0 q1 q2 q3 q4 q5 q6 q7; ⟨hR _ _ _ a, b⟩ }

/-- a row of its own -/
theorem Down.row {acc : Acc} {k : Nat} {t : Ty} {dp deep n : Bool} {ys : List (Den t)} {v : Value} {r : Nat} {full : Bool} {rr : Rg} (hr : gl r = some rr) (ho : rr.owns = true) (hf : full = true → v = hv r) (hdp : deep = true → dp = true) (hone : v.oneCell' = true) (hrow : RowB w (ERep w S dp t) (size t) n ys (F r) v) :
    ∃ fl, Down w S hv F g gl [k] acc (acc.add k r full) [(k, .row t deep n ys)] (fun _ => v) fl (fun S0 hv0 g0 => CRep w S0 hv0 g0 false (.ref k) [v]) := by
  refine ⟨fun k' b => k' = k ∧ F r b ∧ (deep = true ∨ ∃ o m c, v = .slice (some ⟨b, o, none⟩) m c), ?_, ?_, ?_, ?_, rfl, ?_, ?_, ?_⟩
  · exact fun e he => List.mem_cons_of_mem _ he
  · exact fun _ h => h
  · intro e he
    rcases List.mem_cons.1 he with rfl | he
    · exact .inr ⟨by simp, fun h => hf h, rr, hr, ho⟩
    · exact .inl he
  · exact fun _ h => .inl h
  · intro e he
    simp at he
    subst he
    rfl
  · rintro k' b ⟨rfl, hb, _⟩
    exact ⟨by simp, r, full, by simp [Acc.add], hb⟩
  · intro S0 hv0 F0 g0 q1 q2 q3 q4 q5 q6 q7
    have hv0k : hv0 k = v := q3 k (by simp)
    have hg0k : g0 k = some (.row t deep n ys) := q6 (k, .row t deep n ys) (by simp)
    refine ⟨?_, ?_⟩
    · simp only [CRep]
      exact ⟨by rw [hg0k]; simp, by rw [hv0k]; exact hone, by rw [hv0k]⟩
    · intro e he
      simp at he
      subst he
      simp only [GRep]
      rw [hv0k]
      rcases hrow with h | ⟨h0, b, o, cap, arr, T, G, h1, h2, h3, h4, h5, h6, h7, h8, h9⟩
      · exact .inl h
      · cases hd : deep with
        | true =>
          have hdp' := hdp hd
          subst hdp'
          exact .inr ⟨h0, b, o, cap, arr, T, G, h1, h2, h3, h4, h5, q4 k (by simp) b ⟨rfl, h6, .inl hd⟩, fun i b' hb => ⟨q4 k (by simp) b' ⟨rfl, (h7 i b' hb).1, .inl hd⟩, (h7 i b' hb).2⟩, h8, h9⟩
        | false =>
          refine .inr ⟨h0, b, o, cap, arr, T, fun _ _ => False, h1, h2, h3, h4, h5, q4 k (by simp) b ⟨rfl, h6, .inr ⟨o, _, cap, h1⟩⟩, fun _ _ h => h.elim, fun _ _ _ h => h.elim, fun i e he => ?_⟩
          obtain ⟨c, m1, m2, m3⟩ := h9 i e he
          refine ⟨c, m1, m2, ?_⟩
          cases dp with
          | false => exact Rep_mono (fun _ _ _ _ h => h) q1 _ _ _ _ m3
          | true =>
            refine DRep_Rep _ _ _ _ (fun b' hb => ?_) m3
            refine q5 (k, r, full) (by simp [Acc.add]) (by simp) b' (h7 i b' hb).1 ?_
            rintro ⟨_, _, h | ⟨o', m', c', h⟩⟩
            · rw [hd] at h; cases h
            · rw [h1] at h
              cases h
              exact (h7 i _ hb).2 rfl

/-- a map of its own -/
theorem Down.map {acc : Acc} {k r : Nat} {kt vt : Ty} {es : List (Den (.pair kt vt))} (hI : Inv w S hv F g) (hl : ∀ c r, gl c = some r → g c = some r) (hr : gl r = some (.map kt vt es)) :
    Down w S hv F g gl [k] acc (acc.add k r true) [(k, .map kt vt es)] (fun _ => hv r) (fun k' b => k' = k ∧ F r b) (fun S0 hv0 g0 => CRep w S0 hv0 g0 false (.ref k) [hv r]) where
  mpkeep := fun e he => List.mem_cons_of_mem _ he
  vwkeep := fun _ h => h
  mpnew := fun e he => by
    rcases List.mem_cons.1 he with rfl | he
    · exact .inr ⟨by simp, fun _ => rfl, _, hr, rfl⟩
    · exact .inl he
  vwnew := fun _ h => .inl h
  rsids := rfl
  rsown := fun e he => by simp at he; subst he; rfl
  flin := fun k' b => by
    rintro ⟨rfl, hb⟩
    exact ⟨by simp, r, true, by simp [Acc.add], hb⟩
  main := fun S0 hv0 F0 g0 q1 q2 q3 q4 q5 q6 q7 => by
    have hv0k : hv0 k = hv r := q3 k (by simp)
    have hg0k : g0 k = some (.map kt vt es) := q6 (k, .map kt vt es) (by simp)
    have hr' := hI.rep r _ (hl _ _ hr)
    simp only [GRep] at hr'
    obtain ⟨hfl, b, arr, clk, h1, h2, h3, h4, h5⟩ := hr'
    refine ⟨?_, ?_⟩
    · simp only [CRep]
      exact ⟨by rw [hg0k]; simp, by rw [hv0k, h1]; rfl, by rw [hv0k]⟩
    · intro e he
      simp at he
      subst he
      simp only [GRep]
      refine ⟨hfl, b, arr, clk, by rw [hv0k, h1], h2, q4 k (by simp) b ⟨rfl, h3⟩, h4, fun i m e h6 h7 => ?_⟩
      obtain ⟨⟨cs, p1, p2⟩, ds, p3, p4⟩ := h5 i m e h6 h7
      exact ⟨⟨cs, p1, Rep_mono (fun _ _ _ _ h => h) q1 _ _ _ _ p2⟩, ds, p3, Rep_mono (fun _ _ _ _ h => h) q1 _ _ _ _ p4⟩

/-- a row that is nil: of no block -/
theorem Down.nilRow {acc : Acc} {k : Nat} {t : Ty} {deep : Bool} : Down w S hv F g gl [k] acc acc [(k, .row t deep true [])] (fun _ => .slice none 0 0) (fun _ _ => False) (fun S0 hv0 g0 => CRep w S0 hv0 g0 false (.ref k) [.slice none 0 0]) where
  mpkeep := fun _ h => h
  vwkeep := fun _ h => h
  mpnew := fun _ h => .inl h
  vwnew := fun _ h => .inl h
  rsids := rfl
  rsown := fun e he => by simp at he; subst he; rfl
  flin := fun _ _ h => h.elim
  main := fun S0 hv0 F0 g0 q1 q2 q3 q4 q5 q6 q7 => by
    have hv0k : hv0 k = .slice none 0 0 := q3 k (by simp)
    have hg0k : g0 k = some (.row t deep true []) := q6 (k, .row t deep true []) (by simp)
    refine ⟨?_, ?_⟩
    · simp only [CRep]
      exact ⟨by rw [hg0k]; simp, by rw [hv0k]; rfl, by rw [hv0k]⟩
    · intro e he
      simp at he
      subst he
      simp only [GRep]
      rw [hv0k]
      exact .inl ⟨rfl, rfl, rfl⟩

/-- a variable of its own -/
theorem Down.box {acc acc1 : Acc} {k r : Nat} {a a' : SV} {ids : List Nat} {rs : List (Nat × Rg)} {al : Nat → Value} {fl : Nat → Nat → Prop} (hI : Inv w S hv F g) (hl : ∀ c r, gl c = some r → g c = some r) (hr : gl r = some (.box a)) {arr : Array Value} {bl T : Nat} (hbl : hv r = .pointer (some ⟨bl, 0, none⟩)) (harr : w.heap[bl]? = some (.cells arr T (0, 0))) (hF : F r bl)
    (h : Down w S hv F g gl ids (acc.add k r true) acc1 rs al fl (fun S0 hv0 g0 => CRep w S0 hv0 g0 false a' arr.toList)) (hnd : (k :: ids).Nodup) :
    ∃ al fl, Down w S hv F g gl (k :: ids) acc acc1 ((k, .box a') :: rs) al fl (fun S0 hv0 g0 => CRep w S0 hv0 g0 false (.ptr k []) [.pointer (some ⟨bl, 0, none⟩)]) := by
  classical
  rw [List.nodup_cons] at hnd
  have hkm : (k, r, true) ∈ acc1.mp := h.mpkeep _ (by simp [Acc.add])
  refine ⟨fun k' => if k' = k then hv r else al k', fun k' b => if k' = k then F r b else fl k' b, ?_⟩
  have hno : ∀ k', k' ∈ ids → k' ≠ k := fun k' hk he => hnd.1 (he ▸ hk)
  refine ⟨fun e he => h.mpkeep e (List.mem_cons_of_mem _ he), h.vwkeep, ?_, h.vwnew, by simp [h.rsids], ?_, ?_, ?_⟩
  · intro e he
    rcases h.mpnew e he with he | ⟨k1, k2, k3⟩
    · rcases List.mem_cons.1 he with rfl | he
      · exact .inr ⟨by simp, fun _ => by simp, _, hr, rfl⟩
      · exact .inl he
    · exact .inr ⟨List.mem_cons_of_mem _ k1, fun hf => by simp only [hno _ k1, if_false]; exact k2 hf, k3⟩
  · intro e he
    rcases List.mem_cons.1 he with rfl | he
    · rfl
    · exact h.rsown e he
  · intro k' b hb
    by_cases hk : k' = k
    · subst hk
      simp only [if_true] at hb
      exact ⟨by simp, r, true, hkm, hb⟩
    · simp only [hk, if_false] at hb
      obtain ⟨m0, r', f, m1, m2⟩ := h.flin k' b hb
      exact ⟨List.mem_cons_of_mem _ m0, r', f, m1, m2⟩
  · intro S0 hv0 F0 g0 q1 q2 q3 q4 q5 q6 q7
    have hv0k : hv0 k = hv r := by rw [q3 k (by simp)]; simp
    have hg0k : g0 k = some (.box a') := q6 (k, .box a') (by simp)
    obtain ⟨r1, r2⟩ := h.main S0 hv0 F0 g0 q1 q2 (fun k' hk => by rw [q3 k' (List.mem_cons_of_mem _ hk)]; simp [hno k' hk]) (fun k' hk b hb => q4 k' (List.mem_cons_of_mem _ hk) b (by simpa [hno k' hk] using hb))
      (fun e he hi b hb hn => q5 e he (List.mem_cons_of_mem _ hi) b hb (by simpa [hno _ hi] using hn)) (fun e he => q6 e (List.mem_cons_of_mem _ he)) (fun e he hf => by
        rcases List.mem_cons.1 he with rfl | he
        · exact ⟨hv0k, by rw [hg0k]; simp⟩
        · exact q7 e he hf)
    refine ⟨?_, fun e he => ?_⟩
    · simp only [CRep]
      refine ⟨by rw [hg0k]; simp, by rw [hv0k, hbl]; rfl, by rw [hv0k, hbl]; rfl, trivial⟩
    · rcases List.mem_cons.1 he with rfl | he
      · simp only [GRep]
        exact ⟨bl, arr, T, by rw [hv0k, hbl], harr, q4 k (by simp) bl (by simpa using hF), r1⟩
      · exact r2 e he
end
end Go.Rf

namespace Go.Rf

section
variable {P : Program} {H : Hints} {w w' : World} {S : Nat → Prop} {hv : Nat → Value} {F : Nat → Nat → Prop} {g gl gm : Look}

/-- a shape taken out of a value: what is rebuilt of it -/
def Taken (w : World) (S : Nat → Prop) (hv : Nat → Value) (F : Nat → Nat → Prop) (g gl : Look) (s : SS) (a : SV) (acc acc' : Acc) (ds : List D) (m : Bool) (cs : List Value) : Prop :=
  ∃ sv rs al fl, (∀ rest, reb s (ds ++ rest) = some ⟨sv, rs, rest⟩) ∧ (m = false → sv.isSt = a.isSt ∧ sv.isDead = false) ∧ Down w S hv F g gl s.ids acc acc' rs al fl (fun S0 hv0 g0 => CRep w S0 hv0 g0 m sv cs)

theorem view_st (hI : Inv w S hv F g) (hl : ∀ c r, gl c = some r → g c = some r) {a : SV} {d : D} {l : List Nat} (h : view gl a = some (d, l)) : isAgg d.1 = a.isSt := by
  cases a <;> simp only [view, view0, reduceCtorEq] at h
  case v t x => simp only [Option.some.injEq, Prod.mk.injEq] at h; obtain ⟨rfl, _⟩ := h; rfl
  case ref c =>
    split at h <;> try (cases h; done)
    · simp only [Option.some.injEq, Prod.mk.injEq] at h; obtain ⟨rfl, _⟩ := h; rfl
    · simp only [Option.some.injEq, Prod.mk.injEq] at h; obtain ⟨rfl, _⟩ := h; rfl
    · rename_i hg
      have := hI.rep c _ (hl _ _ hg)
      simp only [GRep] at this
      obtain ⟨⟨u, rfl⟩, _⟩ := this
      simp only [Option.some.injEq, Prod.mk.injEq] at h; obtain ⟨rfl, _⟩ := h; rfl
  case sub c sz lo hi =>
    split at h <;> try (cases h; done)
    · split at h <;> try (cases h; done)
      simp only [Option.some.injEq, Prod.mk.injEq] at h; obtain ⟨rfl, _⟩ := h; rfl
    · split at h <;> try (cases h; done)
      simp only [Option.some.injEq, Prod.mk.injEq] at h; obtain ⟨rfl, _⟩ := h; rfl
  case one a =>
    split at h <;> try (cases h; done)
    simp only [Option.some.injEq, Prod.mk.injEq] at h; obtain ⟨rfl, _⟩ := h; rfl
  case pair a b =>
    split at h <;> try (cases h; done)
    simp only [Option.some.injEq, Prod.mk.injEq] at h; obtain ⟨rfl, _⟩ := h; rfl
  case clo f caps =>
    split at h <;> try (cases h; done)
    simp only [Option.some.injEq, Prod.mk.injEq] at h; obtain ⟨rfl, _⟩ := h; rfl

theorem mkOne_st (a : SV) : (mkOne a).isSt = true ∧ (mkOne a).isDead = false := by cases a <;> exact ⟨rfl, rfl⟩
theorem mkPair_st (a b : SV) : (mkPair a b).isSt = true ∧ (mkPair a b).isDead = false := by
  cases a <;> cases b <;> exact ⟨rfl, rfl⟩

theorem ext_down (hI : Inv w S hv F g) (hl : ∀ c r, gl c = some r → g c = some r) : ∀ (s : SS) (a : SV) (acc acc' : Acc) (ds : List D) (cs : List Value), (ext gl s a acc).run = some (ds, acc') → s.ids.Nodup → s.isAny = false → CRep w S hv g s.isChain a cs →
    Taken w S hv F g gl s a acc acc' ds s.isChain cs := by
  have hfail : ∀ {e : List D × Acc}, (M.fail : M (List D × Acc)).run = some e → False := fun h => by simp [M.run] at h
  intro s
  induction s with
  | any => intro a acc acc' ds cs _ _ h; cases h
  | v t =>
    intro a acc acc' ds cs h hnd0 hany0 hc
    simp only [SS.isChain] at hc ⊢
    simp only [ext] at h
    split at h
    · split at h
      · rename_i u
        simp only [M.run, Option.some.injEq, Prod.mk.injEq] at h
        obtain ⟨rfl, rfl⟩ := h
        refine ⟨.v (.sl u) (true, []), [], _, _, fun _ => rfl, fun _ => ⟨rfl, rfl⟩, Down.same fun S0 hv0 g0 _ _ => ?_⟩
        simp only [CRep] at hc ⊢
        subst hc
        simp [Rep]
      · exact (hfail h).elim
    · split at h
      · rename_i d l hview
        split at h
        · rename_i x hx
          simp only [M.run, Option.some.injEq, Prod.mk.injEq] at h
          obtain ⟨rfl, rfl⟩ := h
          have := D_to hx
          subst this
          refine ⟨.v t x, [], _, _, fun _ => rfl, fun _ => ⟨view_st hI hl hview, rfl⟩, Down.see (view_regs _ _ _ hview) fun S0 hv0 g0 h1 h2 => ?_⟩
          simp only [CRep]
          exact view_sound hI hl a _ l cs hview h1 h2 hc
        · exact (hfail h).elim
      · exact (hfail h).elim
  | nl t =>
    intro a acc acc' ds cs h hnd0 hany0 hc
    simp only [SS.isChain] at hc ⊢
    simp only [ext] at h
    have hres : cs = [.slice none 0 0] → a.isSt = false → ds = [] → acc' = acc → Taken w S hv F g gl (.nl t) a acc acc' ds false cs := by
      rintro rfl hst rfl rfl
      refine ⟨.v (.sl t) (true, []), [], _, _, fun _ => rfl, fun _ => ⟨hst.symm, rfl⟩, Down.same fun S0 hv0 g0 _ _ => ?_⟩
      simp [CRep, Rep]
    split at h
    · simp only [M.run, Option.some.injEq, Prod.mk.injEq] at h
      simp only [CRep] at hc
      exact hres hc rfl h.1.symm h.2.symm
    · rename_i u x
      split at h
      · rename_i y hy
        have := cast_spec hy
        simp only [Sigma.mk.injEq] at this
        obtain ⟨rfl, hh⟩ := this
        have := eq_of_heq hh
        subst this
        simp only [M.run] at h
        cases hn : x.1 with
        | false => simp [hn] at h
        | true =>
          simp only [hn, cond_true, Option.some.injEq, Prod.mk.injEq] at h
          simp only [CRep, Rep] at hc
          rcases hc with ⟨_, _, hc⟩ | ⟨h3, _⟩ | ⟨h3, _⟩
          · exact hres hc rfl h.1.symm h.2.symm
          · rw [hn] at h3; cases h3
          · rw [hn] at h3; cases h3
      · exact (hfail h).elim
    · exact (hfail h).elim
  | sp t =>
    intro a acc acc' ds cs h hnd0 hany0 hc
    simp only [SS.isChain] at hc ⊢
    simp only [ext] at h
    split at h
    · rename_i d l hview
      split at h
      · rename_i x hx
        simp only [M.run, Option.some.injEq, Prod.mk.injEq] at h
        obtain ⟨rfl, rfl⟩ := h
        have := D_to hx
        subst this
        have hcell : a.isSt = false ∧ ∃ v, cs = [v] := by
          cases a <;> simp [viewP] at hview
          · simp only [CRep] at hc
            exact ⟨rfl, _, hc.2.1⟩
          · simp only [CRep] at hc
            obtain ⟨b, o, c, rfl, _⟩ := hc
            exact ⟨rfl, _, rfl⟩
        obtain ⟨hst, v, rfl⟩ := hcell
        refine ⟨.sp t x, [], _, _, fun _ => rfl, fun _ => ⟨hst.symm, rfl⟩, Down.see ?_ fun S0 hv0 g0 h1 h2 => ?_⟩
        · exact viewP_regs _ _ _ hview
        · obtain ⟨b, o, c, rfl, k1, k2, k3⟩ := viewP_sound hI hl a _ l v hview h1 h2 hc
          simp only [CRep]
          exact ⟨b, o, c, rfl, k1, k2, k3⟩
      · exact (hfail h).elim
    · exact (hfail h).elim
  | map k kt vt =>
    intro a acc acc' ds cs h hnd0 hany0 hc
    simp only [SS.isChain] at hc ⊢
    simp only [ext] at h
    split at h
    · rename_i r
      split at h
      · rename_i k' v' es hg
        split at h
        · rename_i ys hy
          simp only [M.run, Option.some.injEq, Prod.mk.injEq] at h
          obtain ⟨rfl, rfl⟩ := h
          have := castL_spec hy
          simp only [Sigma.mk.injEq] at this
          obtain ⟨h1, hh⟩ := this
          injection h1 with h1 h2
          subst h1 h2
          have := eq_of_heq hh
          subst this
          simp only [CRep] at hc
          obtain ⟨_, _, rfl⟩ := hc
          exact ⟨.ref k, _, _, _, fun _ => rfl, fun _ => ⟨rfl, rfl⟩, Down.map hI hl hg⟩
        · exact (hfail h).elim
      · exact (hfail h).elim
    · exact (hfail h).elim
  | own k t deep =>
    intro a acc acc' ds cs h hnd0 hany0 hc
    simp only [SS.isChain] at hc ⊢
    simp only [ext] at h
    split at h
    · rename_i r
      split at h
      · rename_i u dp n xs hg
        split at h
        · rename_i ys hy
          split at h
          · rename_i hdp
            simp only [M.run, Option.some.injEq, Prod.mk.injEq] at h
            obtain ⟨rfl, rfl⟩ := h
            have := castL_spec hy
            simp only [Sigma.mk.injEq] at this
            obtain ⟨rfl, hh⟩ := this
            have := eq_of_heq hh
            subst this
            have hr := hI.rep r _ (hl _ _ hg)
            simp only [GRep] at hr
            simp only [CRep] at hc
            obtain ⟨_, hone, rfl⟩ := hc
            obtain ⟨fl, hd⟩ := Down.row (w := w) (S := S) (hv := hv) (F := F) (g := g) (gl := gl) (acc := acc) (k := k) (r := r) (full := true) (deep := deep) hg rfl (fun _ => rfl) (by intro h; simp [h] at hdp; exact hdp) hone hr
            exact ⟨.ref k, _, _, fl, fun _ => rfl, fun _ => ⟨rfl, rfl⟩, hd⟩
          · exact (hfail h).elim
        · exact (hfail h).elim
      · exact (hfail h).elim
    · rename_i r sz lo hi
      split at h
      · rename_i u dp n xs hg
        split at h
        · rename_i ys hy
          split at h
          · rename_i hdp
            simp only [M.run, Option.some.injEq, Prod.mk.injEq] at h
            obtain ⟨rfl, rfl⟩ := h
            have := castL_spec hy
            simp only [Sigma.mk.injEq] at this
            obtain ⟨rfl, hh⟩ := this
            have := eq_of_heq hh
            subst this
            simp only [Bool.and_eq_true, beq_iff_eq] at hdp
            obtain ⟨hdp, rfl⟩ := hdp
            have hr := hI.rep r _ (hl _ _ hg)
            simp only [GRep] at hr
            simp only [CRep] at hc
            obtain ⟨_, v, rfl, hs⟩ := hc
            have hone : v.oneCell' = true := by
              rcases hs with ⟨_, rfl, _⟩ | ⟨b, o, n', cap, o', _, rfl, _⟩ <;> rfl
            obtain ⟨fl, hd⟩ := Down.row (w := w) (S := S) (hv := hv) (F := F) (g := g) (gl := gl) (acc := acc) (k := k) (r := r) (full := false) (deep := deep) hg rfl (fun h => by cases h) (by intro h; simp [h] at hdp; exact hdp) hone (RowB_sub hr hs)
            exact ⟨.ref k, _, _, fl, fun _ => rfl, fun _ => ⟨rfl, rfl⟩, hd⟩
          · exact (hfail h).elim
        · exact (hfail h).elim
      · exact (hfail h).elim
    · simp only [M.run, Option.some.injEq, Prod.mk.injEq] at h
      obtain ⟨rfl, rfl⟩ := h
      simp only [CRep] at hc
      subst hc
      exact ⟨.ref k, _, _, _, fun _ => rfl, fun _ => ⟨rfl, rfl⟩, Down.nilRow⟩
    · rename_i u x
      split at h
      · rename_i y hy
        have := cast_spec hy
        simp only [Sigma.mk.injEq] at this
        obtain ⟨rfl, hh⟩ := this
        have := eq_of_heq hh
        subst this
        simp only [M.run] at h
        cases hn : x.1 with
        | false => simp [hn] at h
        | true =>
          simp only [hn, cond_true, Option.some.injEq, Prod.mk.injEq] at h
          obtain ⟨rfl, rfl⟩ := h
          simp only [CRep, Rep] at hc
          rcases hc with ⟨_, _, rfl⟩ | ⟨h3, _⟩ | ⟨h3, _⟩
          · exact ⟨.ref k, _, _, _, fun _ => rfl, fun _ => ⟨rfl, rfl⟩, Down.nilRow⟩
          · rw [hn] at h3; cases h3
          · rw [hn] at h3; cases h3
      · exact (hfail h).elim
    · exact (hfail h).elim
  | box k s ih =>
    intro a acc acc' ds cs h hnd hany0 hc
    simp only [SS.isChain] at hc ⊢
    simp only [ext] at h
    split at h
    rotate_left
    · exact (hfail h).elim
    rename_i r hany
    split at h
    rotate_left
    · exact (hfail h).elim
    rename_i b hg
    have hr := hI.rep r _ (hl _ _ hg)
    simp only [GRep] at hr
    obtain ⟨bl, arr, T, e1, e2, e3, e4⟩ := hr
    simp only [CRep] at hc
    obtain ⟨_, rfl, _⟩ := hc
    have hnd' := hnd
    simp only [SS.ids] at hnd'
    rw [List.nodup_cons] at hnd'
    have hch : s.isChain = false := by
      cases hs : s.isChain with
      | false => rfl
      | true =>
        exfalso
        cases s <;> simp [SS.isChain] at hs
        · cases b <;> simp [ext, M.run] at h
          simp [CRep] at e4
        · cases b <;> simp [ext, M.run] at h
          simp [CRep] at e4
    have := ih b _ acc' ds arr.toList h hnd'.2 hany (by rw [hch]; exact e4)
    rw [hch] at this
    obtain ⟨sv, rs, al, fl, k1, k2, k3⟩ := this
    obtain ⟨al', fl', k4⟩ := Down.box hI hl hg e1 e2 e3 k3 hnd
    refine ⟨.ptr k [], (k, .box sv) :: rs, al', fl', fun rest => ?_, fun _ => ⟨rfl, rfl⟩, ?_⟩
    · simp [reb, k1]
    · rw [e1]
      exact k4
  | ref k =>
    intro a acc acc' ds cs h hnd0 hany0 hc
    simp only [SS.isChain] at hc ⊢
    simp only [ext] at h
    split at h
    rotate_left
    · exact (hfail h).elim
    rename_i r
    split at h
    rotate_left
    · exact (hfail h).elim
    rename_i hh
    simp only [M.run, Option.some.injEq, Prod.mk.injEq] at h
    obtain ⟨rfl, rfl⟩ := h
    simp only [CRep] at hc
    obtain ⟨_, hone, rfl⟩ := hc
    refine ⟨.ref k, [], _, _, fun _ => rfl, fun _ => ⟨rfl, rfl⟩, Down.same fun S0 hv0 g0 _ h2 => ?_⟩
    obtain ⟨q1, q2⟩ := h2 _ (Acc.has_mem hh) rfl
    simp only at q1 q2
    simp only [CRep]
    exact ⟨q2, by rw [q1]; exact hone, by rw [q1]⟩
  | subr k t =>
    intro a acc acc' ds cs h hnd0 hany0 hc
    simp only [SS.isChain] at hc ⊢
    simp only [ext] at h
    split at h
    rotate_left
    · exact (hfail h).elim
    rename_i r sz lo hi
    split at h
    rotate_left
    · exact (hfail h).elim
    rename_i hh
    simp only [M.run, Option.some.injEq, Prod.mk.injEq] at h
    obtain ⟨rfl, rfl⟩ := h
    rw [Bool.and_eq_true] at hh
    obtain ⟨hh, hz⟩ := hh
    simp only [CRep] at hc
    obtain ⟨_, v, rfl, hv1⟩ := hc
    have hz' : sz = size t := by simpa using hz
    refine ⟨.sub k sz lo hi, [], _, _, fun _ => ?_, fun _ => ⟨rfl, rfl⟩, Down.same fun S0 hv0 g0 _ h2 => ?_⟩
    · simp [reb, hz']
    obtain ⟨q1, q2⟩ := h2 _ (Acc.has_mem hh) rfl
    simp only at q1 q2
    simp only [CRep]
    exact ⟨q2, v, rfl, by rw [q1]; exact hv1⟩
  | ptr k =>
    intro a acc acc' ds cs h hnd0 hany0 hc
    simp only [SS.isChain] at hc ⊢
    simp only [ext] at h
    split at h
    rotate_left
    · exact (hfail h).elim
    rename_i r
    split at h
    rotate_left
    · exact (hfail h).elim
    rename_i hh
    simp only [M.run, Option.some.injEq, Prod.mk.injEq] at h
    obtain ⟨rfl, rfl⟩ := h
    simp only [CRep] at hc
    obtain ⟨_, rfl, hb, _⟩ := hc
    refine ⟨.ptr k [], [], _, _, fun _ => rfl, fun _ => ⟨rfl, rfl⟩, Down.same fun S0 hv0 g0 _ h2 => ?_⟩
    obtain ⟨q1, q2⟩ := h2 _ (Acc.has_mem hh) rfl
    simp only at q1 q2
    simp only [CRep]
    exact ⟨q2, by rw [q1], by rw [q1]; exact hb, trivial⟩
  | one s ih =>
    intro a acc acc' ds cs h hnd hany0 hc
    simp only [SS.isChain] at hc ⊢
    simp only [ext] at h
    have hgo : ∀ b, (ext gl s b acc).run = some (ds, acc') → s.isAny = false → CRep w S hv g false b cs → a.isSt = true → Taken w S hv F g gl (.one s) a acc acc' ds false cs := by
      intro b hb hany hcb hst
      have hch : s.isChain = false := by
        cases hs : s.isChain with
        | false => rfl
        | true =>
          exfalso
          cases s <;> simp [SS.isChain] at hs
          · cases b <;> simp [ext, M.run] at hb
            simp [CRep] at hcb
          · cases b <;> simp [ext, M.run] at hb
            simp [CRep] at hcb
      have := ih b acc acc' ds cs hb hnd hany (by rw [hch]; exact hcb)
      rw [hch] at this
      obtain ⟨sv, rs, al, fl, k1, k2, k3⟩ := this
      refine ⟨mkOne sv, rs, al, fl, fun rest => by simp [reb, k1], fun _ => ⟨by rw [(mkOne_st sv).1, hst], (mkOne_st sv).2⟩, k3.weaken fun S0 hv0 g0 hr => CRep_mkOne hr⟩
    split at h
    · rename_i b hany
      simp only [CRep] at hc
      exact hgo b h hany hc rfl
    · rename_i t x hany
      simp only [CRep, Rep] at hc
      exact hgo (.v t x) h hany (by simpa only [CRep] using hc) rfl
    · exact (hfail h).elim
  | pair s s' ih ih' =>
    intro a acc acc' ds cs h hnd hany0 hc
    simp only [SS.isChain] at hc ⊢
    simp only [ext] at h
    simp only [SS.ids] at hnd
    have hnd1 := List.nodup_append.1 hnd
    have hchain : ∀ (s : SS) (b : SV) (acc acc' : Acc) (ds : List D) (cs : List Value), (ext gl s b acc).run = some (ds, acc') → CRep w S hv g false b cs → s.isChain = false := by
      intro s b acc acc' ds cs hb hcb
      cases hs : s.isChain with
      | false => rfl
      | true =>
        exfalso
        cases s <;> simp [SS.isChain] at hs
        · cases b <;> simp [ext, M.run] at hb
          simp [CRep] at hcb
        · cases b <;> simp [ext, M.run] at hb
          simp [CRep] at hcb
    have hgo : ∀ b b' c1 c2, ((ext gl s b acc).bind fun r => (ext gl s' b' r.2).bind fun r' => .ret (r.1 ++ r'.1, r'.2)).run = some (ds, acc') → (s.isAny || s'.isAny) = false → CRep w S hv g false b c1 → CRep w S hv g false b' c2 → cs = c1 ++ c2 → a.isSt = true → Taken w S hv F g gl (.pair s s') a acc acc' ds false cs := by
      rintro b b' c1 c2 hb hany hc1 hc2 rfl hst
      rw [M.run_bind] at hb
      cases h1 : (ext gl s b acc).run with
      | none => simp [h1] at hb
      | some r1 =>
        simp only [h1, Option.bind_some, M.run_bind] at hb
        cases h2 : (ext gl s' b' r1.2).run with
        | none => simp [h2] at hb
        | some r2 =>
          simp only [h2, Option.bind_some, M.run, Option.some.injEq, Prod.mk.injEq] at hb
          obtain ⟨rfl, rfl⟩ := hb
          simp only [Bool.or_eq_false_iff] at hany
          have hch1 := hchain s b acc r1.2 r1.1 c1 h1 hc1
          have hch2 := hchain s' b' r1.2 r2.2 r2.1 c2 h2 hc2
          have t1 := ih b acc r1.2 r1.1 c1 h1 hnd1.1 hany.1 (by rw [hch1]; exact hc1)
          have t2 := ih' b' r1.2 r2.2 r2.1 c2 h2 hnd1.2.1 hany.2 (by rw [hch2]; exact hc2)
          rw [hch1] at t1
          rw [hch2] at t2
          obtain ⟨sv1, rs1, al1, fl1, k1, k2, k3⟩ := t1
          obtain ⟨sv2, rs2, al2, fl2, m1, m2, m3⟩ := t2
          obtain ⟨al, fl, hd⟩ := k3.both m3 hnd
          refine ⟨mkPair sv1 sv2, rs1 ++ rs2, al, fl, fun rest => ?_, fun _ => ⟨by rw [(mkPair_st sv1 sv2).1, hst], (mkPair_st sv1 sv2).2⟩, hd.weaken fun S0 hv0 g0 hr => CRep_mkPair hr.1 hr.2⟩
          simp [reb, List.append_assoc, k1, m1]
    split at h
    · rename_i b b' hany
      simp only [CRep] at hc
      obtain ⟨c1, c2, e, h1, h2⟩ := hc
      exact hgo b b' c1 c2 h hany h1 h2 e rfl
    · rename_i t u x hany
      simp only [CRep, Rep] at hc
      obtain ⟨c1, c2, e, h1, h2⟩ := hc
      exact hgo (.v t x.1) (.v u x.2) c1 c2 h hany (by simpa only [CRep] using h1) (by simpa only [CRep] using h2) e rfl
    · exact (hfail h).elim
  | unit =>
    intro a acc acc' ds cs h hnd0 hany0 hc
    simp only [SS.isChain] at hc ⊢
    simp only [ext] at h
    split at h
    · simp only [M.run, Option.some.injEq, Prod.mk.injEq] at h
      obtain ⟨rfl, rfl⟩ := h
      refine ⟨.unit, [], _, _, fun _ => rfl, (fun h => by cases h), Down.same fun S0 hv0 g0 _ _ => ?_⟩
      simp only [CRep] at hc ⊢
      exact hc
    · exact (hfail h).elim
  | tup s s' ih ih' =>
    intro a acc acc' ds cs h hnd hany0 hc
    simp only [SS.isChain] at hc ⊢
    simp only [ext] at h
    simp only [SS.ids] at hnd
    have hnd1 := List.nodup_append.1 hnd
    split at h
    rotate_left
    · exact (hfail h).elim
    rename_i b b' hch
    simp only [Bool.or_eq_false_iff, Bool.not_eq_false'] at hch
    rw [M.run_bind] at h
    cases h1 : (ext gl s b acc).run with
    | none => simp [h1] at h
    | some r1 =>
      simp only [h1, Option.bind_some, M.run_bind] at h
      cases h2 : (ext gl s' b' r1.2).run with
      | none => simp [h2] at h
      | some r2 =>
        simp only [h2, Option.bind_some, M.run, Option.some.injEq, Prod.mk.injEq] at h
        obtain ⟨rfl, rfl⟩ := h
        simp only [CRep] at hc
        obtain ⟨p, r, rfl, hp, hr⟩ := hc
        have hany' : s'.isAny = false := by
          cases s' <;> simp [SS.isChain] at hch <;> rfl
        have t2 := ih' b' r1.2 r2.2 r2.1 r h2 hnd1.2.1 hany' (by rw [hch.2]; exact hr)
        rw [hch.2] at t2
        obtain ⟨sv2, rs2, al2, fl2, m1, m2, m3⟩ := t2
        -- the first part
        have t1 : ∃ sv rs al fl, (∀ rest, reb s (r1.1 ++ rest) = some ⟨sv, rs, rest⟩) ∧ Down w S hv F g gl s.ids acc r1.2 rs al fl (fun S0 hv0 g0 => V0 (CRep w S0 hv0 g0 false sv) sv p) := by
          cases hany : s.isAny with
          | true =>
            cases s <;> simp [SS.isAny] at hany
            simp only [ext, M.run, Option.some.injEq] at h1
            subst h1
            exact ⟨.dead, [], _, _, fun _ => rfl, Down.same fun S0 hv0 g0 _ _ => .inl rfl⟩
          | false =>
            have hcell : ∃ cs, CRep w S hv g false b cs ∧ ((b.isSt = true ∧ p = .agg cs.toArray) ∨ (b.isSt = false ∧ cs = [p])) := by
              rcases hp with hd | ⟨k1, cs, k2, k3⟩ | ⟨k1, k2⟩
              · exfalso
                cases b <;> simp [SV.isDead] at hd <;> cases s <;> simp [SS.isAny, SS.isChain] at hany hch <;> simp [ext, view, view0, viewP, M.run] at h1
              · exact ⟨cs, k3, .inl ⟨k1, k2⟩⟩
              · exact ⟨[p], k2, .inr ⟨k1, rfl⟩⟩
            obtain ⟨cs, hcs, hpk⟩ := hcell
            have t1 := ih b acc r1.2 r1.1 cs h1 hnd1.1 hany (by rw [hch.1]; exact hcs)
            rw [hch.1] at t1
            obtain ⟨sv1, rs1, al1, fl1, k1, k2, k3⟩ := t1
            obtain ⟨k4, k5⟩ := k2 rfl
            refine ⟨sv1, rs1, al1, fl1, k1, k3.weaken fun S0 hv0 g0 hr => ?_⟩
            rcases hpk with ⟨q1, q2⟩ | ⟨q1, q2⟩
            · exact .inr (.inl ⟨by rw [k4, q1], cs, q2, hr⟩)
            · exact .inr (.inr ⟨by rw [k4, q1], by rw [← q2]; exact hr⟩)
        obtain ⟨sv1, rs1, al1, fl1, k1, k3⟩ := t1
        obtain ⟨al, fl, hd⟩ := k3.both m3 hnd
        refine ⟨.tup sv1 sv2, rs1 ++ rs2, al, fl, fun rest => ?_, (fun h => by cases h), hd.weaken fun S0 hv0 g0 hr => ?_⟩
        · simp [reb, List.append_assoc, k1, m1]
        · simp only [CRep]
          exact ⟨p, r, rfl, hr.1, hr.2⟩
  | clo f s ih =>
    intro a acc acc' ds cs h hnd hany0 hc
    simp only [SS.isChain] at hc ⊢
    simp only [ext] at h
    split at h
    rotate_left
    · exact (hfail h).elim
    rename_i f' b
    split at h
    rotate_left
    · exact (hfail h).elim
    rename_i hff
    simp only [Bool.and_eq_true, beq_iff_eq] at hff
    obtain ⟨rfl, hch⟩ := hff
    simp only [CRep] at hc
    obtain ⟨ps, rfl, hps⟩ := hc
    have hany : s.isAny = false := by cases s <;> simp [SS.isChain] at hch <;> rfl
    have t := ih b acc acc' ds ps h hnd hany (by rw [hch]; exact hps)
    rw [hch] at t
    obtain ⟨sv, rs, al, fl, k1, k2, k3⟩ := t
    refine ⟨.clo f sv, rs, al, fl, fun rest => by simp [reb, k1], fun _ => ⟨rfl, rfl⟩, k3.weaken fun S0 hv0 g0 hr => ?_⟩
    simp only [CRep]
    exact ⟨ps, rfl, hr⟩
end
end Go.Rf

namespace Go.Rf

section
variable {P : Program} {H : Hints} {w w' : World} {S : Nat → Prop} {hv : Nat → Value} {F : Nat → Nat → Prop} {g gl gm : Look}

theorem updReg_some {l : List (Nat × Rg)} {g : Look} {k : Nat} {r : Rg} (h : updReg g l k = some r) : (k, r) ∈ l ∨ (k ∉ l.map (·.1) ∧ g k = some r) := by
  induction l with
  | nil => exact .inr ⟨by simp, h⟩
  | cons a l ih =>
    obtain ⟨k', r'⟩ := a
    rw [updReg_cons] at h
    split at h
    · rename_i hk
      simp at h
      subst hk h
      exact .inl (by simp)
    · rename_i hk
      rcases ih h with h | ⟨h1, h2⟩
      · exact .inl (by simp [h])
      · exact .inr ⟨by simp [hk]; simpa using h1, h2⟩

theorem updReg_mem {l : List (Nat × Rg)} {g : Look} {k : Nat} {r : Rg} (hnd : (l.map (·.1)).Nodup) (h : (k, r) ∈ l) : updReg g l k = some r := by
  induction l with
  | nil => cases h
  | cons a l ih =>
    obtain ⟨k', r'⟩ := a
    simp only [List.map_cons, List.nodup_cons] at hnd
    rw [updReg_cons]
    rcases List.mem_cons.1 h with h1 | h1
    · cases h1; simp
    · split
      · rename_i hk
        subst hk
        exact (hnd.1 (List.mem_map.2 ⟨(k, r), h1, rfl⟩)).elim
      · exact ih hnd.2 h1

theorem nodup_inj {α β : Type} {f : α → β} {l : List α} (h : (l.map f).Nodup) {a b : α} (ha : a ∈ l) (hb : b ∈ l) (he : f a = f b) : a = b := by
  induction l with
  | nil => cases ha
  | cons x l ih =>
    simp only [List.map_cons, List.nodup_cons] at h
    rcases List.mem_cons.1 ha with h1 | h1
    · rcases List.mem_cons.1 hb with h2 | h2
      · rw [h1, h2]
      · exact (h.1 (List.mem_map.2 ⟨b, h2, by rw [← he, h1]⟩)).elim
    · rcases List.mem_cons.1 hb with h2 | h2
      · exact (h.1 (List.mem_map.2 ⟨a, h1, by rw [he, h2]⟩)).elim
      · exact ih h.2 h1 h2

theorem Acc.ok_spec {acc : Acc} (h : acc.ok = true) : (acc.mp.map fun e => e.2.1).Nodup ∧ ∀ k ∈ acc.vw, ∀ e ∈ acc.mp, e.2.1 ≠ k := by
  unfold Acc.ok at h
  simp only [Bool.and_eq_true] at h
  refine ⟨nodupB_spec h.1, fun k hk e he => ?_⟩
  have := List.all_eq_true.1 h.2 k hk
  simp only [Bool.not_eq_true', List.any_eq_false, beq_iff_eq] at this
  exact this e he

/-- what is taken out stands in a frame of its own -/
theorem coerce (hI : Inv w S hv F g) {ids : List Nat} {acc : Acc} {rs : List (Nat × Rg)} {al : Nat → Value} {fl : Nat → Nat → Prop} {R : (Nat → Prop) → (Nat → Value) → Look → Prop}
    (hd : Down w S hv F g gl ids ⟨[], []⟩ acc rs al fl R) (hnd : ids.Nodup) (hok : acc.ok = true) :
    ∃ S0, Inv w S0 al fl (updReg (fun _ => none) rs) ∧ R S0 al (updReg (fun _ => none) rs) ∧ (∀ b, S b → S0 b) ∧ (∀ b, S0 b → S b ∨ FL F acc.vw b ∨ ∃ e ∈ acc.mp, F e.2.1 b) ∧
      (∀ k b, fl k b → ∃ r f, (k, r, f) ∈ acc.mp ∧ F r b) ∧ (∀ e ∈ acc.mp, e.1 ∈ ids ∧ (e.2.2 = true → al e.1 = hv e.2.1)) := by
  obtain ⟨ok1, ok2⟩ := Acc.ok_spec hok
  have hrnd : (rs.map (·.1)).Nodup := by rw [hd.rsids]; exact hnd
  have hent : ∀ k b, fl k b → ∃ r f, (k, r, f) ∈ acc.mp ∧ F r b := fun k b h => (hd.flin k b h).2
  have hsame : ∀ e ∈ acc.mp, ∀ e' ∈ acc.mp, ∀ b, F e.2.1 b → F e'.2.1 b → e = e' := fun e he e' he' b h h' => nodup_inj ok1 he he' (hI.disj _ _ b h h')
  have hmp : ∀ e ∈ acc.mp, e.1 ∈ ids ∧ (e.2.2 = true → al e.1 = hv e.2.1) := by
    intro e he
    rcases hd.mpnew e he with h | ⟨h1, h2, _⟩
    · cases h
    · exact ⟨h1, h2⟩
  obtain ⟨m1, m2⟩ := hd.main (fun b => S b ∨ FL F acc.vw b ∨ ∃ e ∈ acc.mp, F e.2.1 b ∧ ¬ fl e.1 b) al fl (updReg (fun _ => none) rs) (fun _ h => .inl h) (fun _ h => .inr (.inl h)) (fun _ _ => rfl) (fun _ _ _ h => h)
    (fun e he _ b hb hn => .inr (.inr ⟨e, he, hb, hn⟩)) (fun e he => updReg_mem hrnd he) (fun e he => by cases he)
  refine ⟨fun b => S b ∨ FL F acc.vw b ∨ ∃ e ∈ acc.mp, F e.2.1 b ∧ ¬ fl e.1 b, ⟨?_, ?_, ?_, ?_, ?_, ?_⟩, m1, fun _ h => .inl h, ?_, hent, hmp⟩
  · intro c r hr
    rcases updReg_some hr with h | ⟨_, h⟩
    · exact m2 _ h
    · cases h
  · intro c b hb
    have hk := (hd.flin c b hb).1
    rw [← hd.rsids] at hk
    obtain ⟨e, he, rfl⟩ := List.mem_map.1 hk
    exact ⟨e.2, updReg_mem hrnd he, hd.rsown e he⟩
  · intro c c' b hb hb'
    obtain ⟨r, f, h1, h2⟩ := hent c b hb
    obtain ⟨r', f', h3, h4⟩ := hent c' b hb'
    have := hsame _ h1 _ h3 b h2 h4
    simp at this
    exact this.1
  · intro c b hb hs
    obtain ⟨r, f, h1, h2⟩ := hent c b hb
    rcases hs with h | ⟨k, hk, hkb⟩ | ⟨e, he, heb, hn⟩
    · exact hI.shr r b h2 h
    · exact ok2 k hk _ h1 (hI.disj r k b h2 hkb)
    · have := hsame _ h1 _ he b h2 heb
      subst this
      exact hn hb
  · intro c b hb
    obtain ⟨r, f, h1, h2⟩ := hent c b hb
    exact hI.old r b h2
  · rintro b (h | ⟨k, hk, hkb⟩ | ⟨e, he, heb, _⟩)
    · exact hI.sold b h
    · exact hI.old k b hkb
    · exact hI.old _ b heb
  · rintro b (h | h | ⟨e, he, heb, _⟩)
    · exact .inl h
    · exact .inr (.inl h)
    · exact .inr (.inr ⟨e, he, heb⟩)
end
end Go.Rf

namespace Go.Rf

section
variable {P : Program} {H : Hints} {w w' : World} {S : Nat → Prop} {hv : Nat → Value} {F : Nat → Nat → Prop} {g gl gm : Look}

theorem pack_nil0 : pack [] [] = some () := rfl
theorem pack_nil1 (d : D) (ds : List D) : pack [] (d :: ds) = none := rfl
theorem pack_one0 (t : Ty) : pack [t] [] = none := rfl
theorem pack_one1 (t : Ty) (d : D) : pack [t] [d] = d.to t := rfl
theorem pack_one2 (t : Ty) (d e : D) (ds : List D) : pack [t] (d :: e :: ds) = none := rfl
theorem pack_two0 (t u : Ty) (ts : List Ty) : pack (t :: u :: ts) [] = none := rfl
theorem pack_two1 (t u : Ty) (ts : List Ty) (d : D) (ds : List D) : pack (t :: u :: ts) (d :: ds) = (match d.to t, pack (u :: ts) ds with
      | some x, some y => some ((x, y) : Den t × Den (tyOf (u :: ts)))
      | _, _ => none) := rfl

theorem pair_inj {α β : Type} {p : α} {q : β} {x : α × β} (h : some (p, q) = some x) : x = (p, q) := by simpa using h.symm

theorem unpack_pack (ts : List Ty) : ∀ (ds : List D) (x : Den (tyOf ts)), pack ts ds = some x → unpack ts x = ds := by
  induction ts with
  | nil =>
    intro ds x h
    cases ds with
    | nil => rfl
    | cons d ds => rw [pack_nil1] at h; exact absurd h (by simp)
  | cons t ts ih =>
    cases ts with
    | nil =>
      intro ds x h
      match ds, h with
      | [], h => rw [pack_one0] at h; exact absurd h (by simp)
      | [d], h =>
        rw [pack_one1] at h
        have := D_to (t := t) (x := x) h
        subst this
        rfl
      | _ :: _ :: _, h => rw [pack_one2] at h; exact absurd h (by simp)
    | cons u ts =>
      intro ds x h
      cases ds with
      | nil => rw [pack_two0] at h; exact absurd h (by simp)
      | cons d ds =>
        rw [pack_two1] at h
        cases hy : d.to t with
        | none => simp [hy] at h
        | some y =>
          cases hz : pack (u :: ts) ds with
          | none => simp [hy, hz] at h
          | some z =>
            simp only [hy, hz] at h
            have hx := pair_inj h
            subst hx
            have := D_to hy
            subst this
            show ⟨t, y⟩ :: unpack (u :: ts) z = _
            rw [ih ds z hz]

theorem ext_slot (hI : Inv w S hv F g) (hl : ∀ c r, gl c = some r → g c = some r) {s : SS} {a : SV} {v : Value} {acc acc' : Acc} {ds : List D} (h : (ext gl s a acc).run = some (ds, acc')) (hnd : s.ids.Nodup) (ha : s.isAny = false → VR w S hv g a v) :
    ∃ sv rs al fl, (∀ rest, reb s (ds ++ rest) = some ⟨sv, rs, rest⟩) ∧ Down w S hv F g gl s.ids acc acc' rs al fl (fun S0 hv0 g0 => VR w S0 hv0 g0 sv v) := by
  cases hany : s.isAny with
  | true =>
    cases s <;> simp [SS.isAny] at hany
    simp only [ext, M.run, Option.some.injEq, Prod.mk.injEq] at h
    obtain ⟨rfl, rfl⟩ := h
    exact ⟨.dead, [], _, _, fun _ => rfl, Down.same fun S0 hv0 g0 _ _ => trivial⟩
  | false =>
    replace ha := ha hany
    cases hch : s.isChain with
    | true =>
      have hc : ∃ vs : List Value, v = .tuple vs.toArray ∧ CRep w S hv g true a vs := by
        cases s <;> simp [SS.isChain] at hch
        · cases a <;> simp [ext, M.run] at h
          exact ⟨[], ha, by simp only [CRep]⟩
        · cases a <;> simp [ext, M.run] at h
          exact ha
      obtain ⟨vs, rfl, hc⟩ := hc
      have t := ext_down hI hl s a acc acc' ds vs h hnd hany (by rw [hch]; exact hc)
      rw [hch] at t
      obtain ⟨sv, rs, al, fl, k1, _, k3⟩ := t
      refine ⟨sv, rs, al, fl, k1, k3.weaken fun S0 hv0 g0 hr => ?_⟩
      have hsv : sv = .unit ∨ ∃ x y, sv = .tup x y := by
        have := k1 []
        cases s <;> simp [SS.isChain] at hch
        · simp [reb] at this
          exact .inl this.1.symm
        · simp only [reb] at this
          split at this <;> try (cases this; done)
          split at this <;> try (cases this; done)
          simp only [Option.some.injEq, Reb.mk.injEq] at this
          exact .inr ⟨_, _, this.1.symm⟩
      rcases hsv with rfl | ⟨x, y, rfl⟩
      · simp only [CRep] at hr
        subst hr
        rfl
      · exact ⟨vs, rfl, hr⟩
    | false =>
      have hcell : ∃ cs, CRep w S hv g false a cs ∧ ((a.isSt = true ∧ v = .agg cs.toArray) ∨ (a.isSt = false ∧ cs = [v])) := by
        have hbad : a.isDead = true → False := by
          intro hd
          cases a <;> simp [SV.isDead] at hd <;> cases s <;> simp [SS.isAny, SS.isChain] at hany hch <;> simp [ext, view, view0, viewP, M.run] at h
        have hp : V0 (CRep w S hv g false a) a v := by
          cases a <;> first | exact ha | exact (hbad rfl).elim
        rcases hp with hd | ⟨k1, cs, k2, k3⟩ | ⟨k1, k2⟩
        · exact (hbad hd).elim
        · exact ⟨cs, k3, .inl ⟨k1, k2⟩⟩
        · exact ⟨[v], k2, .inr ⟨k1, rfl⟩⟩
      obtain ⟨cs, hcs, hpk⟩ := hcell
      have t := ext_down hI hl s a acc acc' ds cs h hnd hany (by rw [hch]; exact hcs)
      rw [hch] at t
      obtain ⟨sv, rs, al, fl, k1, k2, k3⟩ := t
      obtain ⟨k4, k5⟩ := k2 rfl
      refine ⟨sv, rs, al, fl, k1, k3.weaken fun S0 hv0 g0 hr => ?_⟩
      have hV : V0 (CRep w S0 hv0 g0 false sv) sv v := by
        rcases hpk with ⟨q1, q2⟩ | ⟨q1, q2⟩
        · exact .inr (.inl ⟨by rw [k4, q1], cs, q2, hr⟩)
        · exact .inr (.inr ⟨by rw [k4, q1], by rw [← q2]; exact hr⟩)
      cases sv <;> first | exact hV | (simp [SV.isDead] at k5)

theorem extF_down (hI : Inv w S hv F g) (hl : ∀ c r, gl c = some r → g c = some r) {slot : Nat → SV} {val : Nat → Value} : ∀ (l : List (Nat × SS)) (acc acc' : Acc) (ds : List D), (extF gl slot l acc).run = some (ds, acc') → (l.flatMap fun y => y.2.ids).Nodup → (∀ y ∈ l, y.2.isAny = false → (∃ acc r, (ext gl y.2 (slot y.1) acc).run = some r) → VR w S hv g (slot y.1) (val y.1)) →
    ∃ sl rs al fl, rebF l ds = some ⟨sl, rs⟩ ∧ sl.map (·.1) = l.map (·.1) ∧ Down w S hv F g gl (l.flatMap fun y => y.2.ids) acc acc' rs al fl (fun S0 hv0 g0 => ∀ e ∈ sl, VR w S0 hv0 g0 e.2 (val e.1))
  | [], acc, acc', ds, h, _, _ => by
    simp only [extF, M.run, Option.some.injEq, Prod.mk.injEq] at h
    obtain ⟨rfl, rfl⟩ := h
    exact ⟨[], [], _, _, rfl, rfl, Down.same fun S0 hv0 g0 _ _ e he => by cases he⟩
  | (i, s) :: l, acc, acc', ds, h, hnd, ha => by
    simp only [extF, M.run_bind] at h
    cases h1 : (ext gl s (slot i) acc).run with
    | none => simp [h1] at h
    | some r1 =>
      simp only [h1, Option.bind_some, M.run_bind] at h
      cases h2 : (extF gl slot l r1.2).run with
      | none => simp [h2] at h
      | some r2 =>
        simp only [h2, Option.bind_some, M.run, Option.some.injEq, Prod.mk.injEq] at h
        obtain ⟨rfl, rfl⟩ := h
        simp only [List.flatMap_cons] at hnd
        have hnd1 := List.nodup_append.1 hnd
        obtain ⟨sv, rs1, al1, fl1, k1, k3⟩ := ext_slot hI hl h1 hnd1.1 (fun hn => ha (i, s) (by simp) hn ⟨_, _, h1⟩)
        obtain ⟨sl, rs2, al2, fl2, m1, m2, m3⟩ := extF_down hI hl l r1.2 r2.2 r2.1 h2 hnd1.2.1 (fun y hy => ha y (List.mem_cons_of_mem _ hy))
        obtain ⟨al, fl, hd⟩ := k3.both m3 hnd
        refine ⟨(i, sv) :: sl, rs1 ++ rs2, al, fl, ?_, by simp [m2], ?_⟩
        · simp [rebF, k1, m1]
        · simp only [List.flatMap_cons]
          refine hd.weaken fun S0 hv0 g0 hr e he => ?_
          rcases List.mem_cons.1 he with rfl | he
          · exact hr.1
          · exact hr.2 e he
end
end Go.Rf

namespace Go.Rf

section
variable {w : World} {S S' : Nat → Prop} {hv : Nat → Value} {F : Nat → Nat → Prop} {g : Look}

/-- data for which no memory is read -/
def apartD : (t : Ty) → Den t → Bool
  | .int _, _ => true
  | .bool, _ => true
  | .nil, _ => true
  | .one a, x => apartD a x
  | .pair a b, x => apartD a x.1 && apartD b x.2
  | .sl _, x => x.1
  | .fn _ _, _ => false
  | .hsl _, _ => false

theorem Rep_apart {w' : World} : ∀ (t : Ty) (x : Den t) (cs : List Value), apartD t x = true → Rep w S false t x cs → Rep w' S' false t x cs := by
  intro t
  induction t with
  | int k => intro x cs _ h; simpa only [Rep] using h
  | bool => intro x cs _ h; simpa only [Rep] using h
  | nil => intro x cs _ h; simpa only [Rep] using h
  | one a ih => intro x cs h1 h; exact ih x cs h1 h
  | pair a b iha ihb =>
    intro x cs h1 h
    simp only [apartD, Bool.and_eq_true] at h1
    simp only [Rep] at h ⊢
    obtain ⟨c, d, e, h2, h3⟩ := h
    exact ⟨c, d, e, iha _ _ h1.1 h2, ihb _ _ h1.2 h3⟩
  | sl t ih =>
    intro x cs h1 h
    simp only [apartD] at h1
    simp only [Rep] at h ⊢
    rcases h with h | ⟨h, _⟩ | h
    · exact .inl h
    · rw [h1] at h; cases h
    · exact .inr (.inr h)
  | fn f c ih => intro x cs h; simp [apartD] at h
  | hsl t ih => intro x cs h; simp [apartD] at h

theorem flat_apart : ∀ (t : Ty) (x : Den t), flat t = true → apartD t x = true := by
  intro t
  induction t with
  | one a ih => intro x h; exact ih x h
  | pair a b iha ihb => intro x h; simp only [flat, Bool.and_eq_true] at h; simp [apartD, iha _ h.1, ihb _ h.2]
  | sl t ih => intro x h; simp [flat] at h
  | fn f c ih => intro x h; simp [flat] at h
  | hsl t ih => intro x h; simp [flat] at h
  | _ => intro x _; rfl

/-- no memory is read for it but what is owned -/
def apartSV : SV → Bool
  | .v t x => apartD t x
  | .sp _ _ => false
  | .one a => apartSV a
  | .pair a b => apartSV a && apartSV b
  | .tup a b => apartSV a && apartSV b
  | .clo _ a => apartSV a
  | _ => true

theorem CRep_apart : ∀ (a : SV) (m : Bool) (cs : List Value), apartSV a = true → CRep w S hv g m a cs → CRep w S' hv g m a cs := by
  intro a
  induction a with
  | v t x => intro m cs ha h; cases m <;> simp only [CRep] at h ⊢; exact Rep_apart _ _ _ ha h
  | sp t x => intro m cs ha; simp [apartSV] at ha
  | one a ih => intro m cs ha h; cases m <;> simp only [CRep] at h ⊢; exact ih _ _ ha h
  | pair a b iha ihb =>
    intro m cs ha h
    simp only [apartSV, Bool.and_eq_true] at ha
    cases m <;> simp only [CRep] at h ⊢
    obtain ⟨c, d, e, h1, h2⟩ := h
    exact ⟨c, d, e, iha _ _ ha.1 h1, ihb _ _ ha.2 h2⟩
  | tup a b iha ihb =>
    intro m cs ha h
    simp only [apartSV, Bool.and_eq_true] at ha
    cases m <;> simp only [CRep] at h ⊢
    obtain ⟨p, r, e, h1, h2⟩ := h
    exact ⟨p, r, e, V0_mono (fun cs h => iha _ _ ha.1 h) h1, ihb _ _ ha.2 h2⟩
  | clo f a ih =>
    intro m cs ha h
    cases m <;> simp only [CRep] at h ⊢
    obtain ⟨ps, e, h1⟩ := h
    exact ⟨ps, e, ih _ _ ha h1⟩
  | dead => intro m cs _ h; cases m <;> simp only [CRep] at h ⊢; exact h
  | ref c => intro m cs _ h; cases m <;> simp only [CRep] at h ⊢; exact h
  | sub c sz lo hi => intro m cs _ h; cases m <;> simp only [CRep] at h ⊢; exact h
  | ptr c p => intro m cs _ h; cases m <;> simp only [CRep] at h ⊢; exact h
  | unit => intro m cs _ h; cases m <;> simp only [CRep] at h ⊢; exact h
  | nilv => intro m cs _ h; cases m <;> simp only [CRep] at h ⊢; exact h

def apartRg : Rg → Bool
  | .row t dp _ _ => dp || flat t
  | .box a => apartSV a
  | .map _ _ _ => true
  | _ => false

theorem GRep_apart {k : Nat} {r : Rg} (ha : apartRg r = true) (h : GRep w S hv g F k r) : GRep w S' hv g F k r := by
  cases r <;> simp [apartRg] at ha
  · rename_i t dp n xs
    simp only [GRep] at h ⊢
    refine RowB_mono (fun _ h => h) (fun _ _ => rfl) (fun e G cs _ he => ?_) h
    cases dp with
    | true => exact he
    | false =>
      simp at ha
      exact Rep_flat _ _ _ ha he
  · simp only [GRep] at h ⊢
    obtain ⟨b, arr, T, h1, h2, h3, h4⟩ := h
    exact ⟨b, arr, T, h1, h2, h3, CRep_apart _ _ _ ha h4⟩
  · rename_i k v es
    simp only [GRep] at h ⊢
    obtain ⟨hfl, b, arr, clk, h1, h2, h3, h4, h5⟩ := h
    refine ⟨hfl, b, arr, clk, h1, h2, h3, h4, fun i m e h6 h7 => ?_⟩
    obtain ⟨⟨cs, p1, p2⟩, ds, p3, p4⟩ := h5 i m e h6 h7
    exact ⟨⟨cs, p1, Rep_flat _ _ _ hfl.1 p2⟩, ds, p3, Rep_flat _ _ _ hfl.2 p4⟩
end
end Go.Rf

namespace Go.Rf

theorem unpack_types (ts : List Ty) : ∀ x : Den (tyOf ts), (unpack ts x).map (·.1) = ts := by
  induction ts with
  | nil => intro x; rfl
  | cons t ts ih =>
    cases ts with
    | nil => intro x; rfl
    | cons u ts =>
      intro x
      show t :: (unpack (u :: ts) x.2).map (·.1) = _
      rw [ih]

theorem apart_mkOne {a : SV} (h : apartSV a = true) : apartSV (mkOne a) = true := by cases a <;> simpa [mkOne, apartSV, apartD] using h
theorem apart_mkPair {a b : SV} (h : apartSV a = true) (h' : apartSV b = true) : apartSV (mkPair a b) = true := by
  cases a <;> cases b <;> simp_all [mkPair, apartSV, apartD]

theorem reb_apart : ∀ (s : SS) (ds rest : List D) (ts : List Ty) (sv : SV) (rs : List (Nat × Rg)), shared s = false → reb s ds = some ⟨sv, rs, rest⟩ → ds.map (·.1) = s.tys ++ ts → apartSV sv = true ∧ (∀ e ∈ rs, apartRg e.2 = true) ∧ rest.map (·.1) = ts := by
  intro s
  induction s with
  | any => intro ds rest ts sv rs _ h ht; simp [reb] at h; obtain ⟨rfl, rfl, rfl⟩ := h; exact ⟨rfl, by simp, by simpa [SS.tys] using ht⟩
  | v t =>
    intro ds rest ts sv rs hs h ht
    cases ds with
    | nil => simp [reb] at h
    | cons d ds =>
      simp [reb] at h
      obtain ⟨rfl, rfl, rfl⟩ := h
      simp [SS.tys] at ht
      simp [shared] at hs
      exact ⟨by simp only [apartSV]; exact flat_apart _ _ (by rw [ht.1]; exact hs), by simp, by simpa using ht.2⟩
  | nl t => intro ds rest ts sv rs _ h ht; simp [reb] at h; obtain ⟨rfl, rfl, rfl⟩ := h; exact ⟨rfl, by simp, by simpa [SS.tys] using ht⟩
  | sp t => intro ds rest ts sv rs hs; simp [shared] at hs
  | own c t deep =>
    intro ds rest ts sv rs hs h ht
    cases ds with
    | nil => simp [reb] at h
    | cons d ds =>
      obtain ⟨u, x⟩ := d
      simp [SS.tys] at ht
      obtain ⟨rfl, ht⟩ := ht
      simp [reb] at h
      obtain ⟨rfl, rfl, rfl⟩ := h
      simp [shared] at hs
      refine ⟨rfl, ?_, by simpa using ht⟩
      intro e he
      simp at he
      subst he
      simp [apartRg]
      cases deep <;> simp_all
  | map c kt vt =>
    intro ds rest ts sv rs hs h ht
    cases ds with
    | nil => simp [reb] at h
    | cons d ds =>
      obtain ⟨u, x⟩ := d
      simp [SS.tys] at ht
      obtain ⟨rfl, ht⟩ := ht
      simp [reb] at h
      obtain ⟨rfl, rfl, rfl⟩ := h
      refine ⟨rfl, ?_, by simpa using ht⟩
      intro e he
      simp at he
      subst he
      rfl
  | ref k => intro ds rest ts sv rs _ h ht; simp [reb] at h; obtain ⟨rfl, rfl, rfl⟩ := h; exact ⟨rfl, by simp, by simpa [SS.tys] using ht⟩
  | subr k t =>
    intro ds rest ts sv rs _ h ht
    match ds with
    | [] => simp [reb] at h
    | [d] => obtain ⟨u, x⟩ := d; cases u <;> simp [reb] at h
    | d :: e :: ds =>
      obtain ⟨u, x⟩ := d
      obtain ⟨u', y⟩ := e
      simp [SS.tys] at ht
      obtain ⟨rfl, rfl, ht⟩ := ht
      simp [reb] at h
      obtain ⟨rfl, rfl, rfl⟩ := h
      exact ⟨rfl, by simp, by simpa using ht⟩
  | ptr k => intro ds rest ts sv rs _ h ht; simp [reb] at h; obtain ⟨rfl, rfl, rfl⟩ := h; exact ⟨rfl, by simp, by simpa [SS.tys] using ht⟩
  | unit => intro ds rest ts sv rs _ h ht; simp [reb] at h; obtain ⟨rfl, rfl, rfl⟩ := h; exact ⟨rfl, by simp, by simpa [SS.tys] using ht⟩
  | clo f s ih => intro ds rest ts sv rs hs; simp [shared] at hs
  | one s ih =>
    intro ds rest ts sv rs hs h ht
    simp only [reb] at h
    split at h <;> try (cases h; done)
    rename_i r hr
    simp only [Option.some.injEq, Reb.mk.injEq] at h
    obtain ⟨rfl, rfl, rfl⟩ := h
    obtain ⟨h1, h2, h3⟩ := ih ds r.rest ts r.sv r.rs (by simpa [shared] using hs) hr (by simpa [SS.tys] using ht)
    exact ⟨apart_mkOne h1, h2, h3⟩
  | box k s ih =>
    intro ds rest ts sv rs hs h ht
    simp only [reb] at h
    split at h <;> try (cases h; done)
    rename_i r hr
    simp only [Option.some.injEq, Reb.mk.injEq] at h
    obtain ⟨rfl, rfl, rfl⟩ := h
    obtain ⟨h1, h2, h3⟩ := ih ds r.rest ts r.sv r.rs (by simpa [shared] using hs) hr (by simpa [SS.tys] using ht)
    refine ⟨rfl, ?_, h3⟩
    intro e he
    rcases List.mem_cons.1 he with rfl | he
    · exact h1
    · exact h2 e he
  | pair s s' ih ih' =>
    intro ds rest ts sv rs hs h ht
    simp only [reb] at h
    split at h <;> try (cases h; done)
    rename_i r hr
    split at h <;> try (cases h; done)
    rename_i r' hr'
    simp only [Option.some.injEq, Reb.mk.injEq] at h
    obtain ⟨rfl, rfl, rfl⟩ := h
    simp [shared] at hs
    simp only [SS.tys, List.append_assoc] at ht
    obtain ⟨h1, h2, h3⟩ := ih ds r.rest _ r.sv r.rs hs.1 hr ht
    obtain ⟨h4, h5, h6⟩ := ih' r.rest r'.rest _ r'.sv r'.rs hs.2 hr' h3
    refine ⟨apart_mkPair h1 h4, fun e he => ?_, h6⟩
    rcases List.mem_append.1 he with he | he
    · exact h2 e he
    · exact h5 e he
  | tup s s' ih ih' =>
    intro ds rest ts sv rs hs h ht
    simp only [reb] at h
    split at h <;> try (cases h; done)
    rename_i r hr
    split at h <;> try (cases h; done)
    rename_i r' hr'
    simp only [Option.some.injEq, Reb.mk.injEq] at h
    obtain ⟨rfl, rfl, rfl⟩ := h
    simp [shared] at hs
    simp only [SS.tys, List.append_assoc] at ht
    obtain ⟨h1, h2, h3⟩ := ih ds r.rest _ r.sv r.rs hs.1 hr ht
    obtain ⟨h4, h5, h6⟩ := ih' r.rest r'.rest _ r'.sv r'.rs hs.2 hr' h3
    refine ⟨by simp [apartSV, h1, h4], fun e he => ?_, h6⟩
    rcases List.mem_append.1 he with he | he
    · exact h2 e he
    · exact h5 e he
end Go.Rf

namespace Go.Rf

section
variable {w : World} {S : Nat → Prop} {hv hv' : Nat → Value} {g g' : Look} {f : Nat → Nat}

theorem ren_isSt (a : SV) : (a.ren f).isSt = a.isSt ∧ (a.ren f).isDead = a.isDead ∧ (a.ren f).size = a.size := by
  induction a with
  | one a ih => exact ⟨rfl, rfl, by simp [SV.ren, SV.size, ih.2.2]⟩
  | pair a b iha ihb => exact ⟨rfl, rfl, by simp [SV.ren, SV.size, iha.2.2, ihb.2.2]⟩
  | _ => exact ⟨rfl, rfl, rfl⟩

theorem CRep_ren (h : ∀ c, g c ≠ none → g' (f c) ≠ none ∧ hv' (f c) = hv c ∧ ∀ n, glen g' (f c) = some n → glen g c = some n) : ∀ (a : SV) (m : Bool) (cs : List Value), CRep w S hv g m a cs → CRep w S hv' g' m (a.ren f) cs := by
  intro a
  induction a with
  | dead => intro m cs hc; cases m <;> simp only [CRep, SV.ren] at hc ⊢; exact hc
  | v t x => intro m cs hc; cases m <;> simp only [CRep, SV.ren] at hc ⊢; exact hc
  | ref c => intro m cs hc; cases m <;> simp only [CRep, SV.ren] at hc ⊢; obtain ⟨h1, h2, h3⟩ := hc; obtain ⟨k1, k2, _⟩ := h c h1; exact ⟨k1, by rw [k2]; exact h2, by rw [k2]; exact h3⟩
  | sub c sz lo hi => intro m cs hc; cases m <;> simp only [CRep, SV.ren] at hc ⊢; obtain ⟨h1, h2⟩ := hc; obtain ⟨k1, k2, _⟩ := h c h1; exact ⟨k1, by rw [k2]; exact h2⟩
  | ptr c p =>
    intro m cs hc
    cases m <;> simp only [CRep, SV.ren] at hc ⊢
    obtain ⟨h1, h2, h3, h4⟩ := hc
    obtain ⟨k1, k2, k3⟩ := h c h1
    refine ⟨k1, by rw [k2]; exact h2, by rw [k2]; exact h3, ?_⟩
    unfold PtrIn at h4 ⊢
    split at h4
    · intro n hn; exact h4 n (k3 n hn)
    · trivial
  | sp t x => intro m cs hc; cases m <;> simp only [CRep, SV.ren] at hc ⊢; exact hc
  | one a ih => intro m cs hc; cases m <;> simp only [CRep, SV.ren] at hc ⊢; exact ih _ _ hc
  | pair a b iha ihb =>
    intro m cs hc
    cases m <;> simp only [CRep, SV.ren] at hc ⊢
    obtain ⟨c, d, e, h1, h2⟩ := hc
    exact ⟨c, d, e, iha _ _ h1, ihb _ _ h2⟩
  | unit => intro m cs hc; cases m <;> simp only [CRep, SV.ren] at hc ⊢; exact hc
  | tup a b iha ihb =>
    intro m cs hc
    cases m <;> simp only [CRep, SV.ren] at hc ⊢
    obtain ⟨p, r, e, h1, h2⟩ := hc
    refine ⟨p, r, e, ?_, ihb _ _ h2⟩
    obtain ⟨s1, s2, _⟩ := ren_isSt (f := f) a
    rcases h1 with h1 | ⟨h1, cs, h3, h4⟩ | ⟨h1, h3⟩
    · exact .inl (by rw [s2]; exact h1)
    · exact .inr (.inl ⟨by rw [s1]; exact h1, cs, h3, iha _ _ h4⟩)
    · exact .inr (.inr ⟨by rw [s1]; exact h1, iha _ _ h3⟩)
  | clo f' a ih =>
    intro m cs hc
    cases m <;> simp only [CRep, SV.ren] at hc ⊢
    obtain ⟨ps, e, h1⟩ := hc
    exact ⟨ps, e, ih _ _ h1⟩
  | nilv => intro m cs hc; cases m <;> simp only [CRep, SV.ren] at hc ⊢; exact hc
end
end Go.Rf

namespace Go.Rf

section
variable {w w' : World} {S S' : Nat → Prop} {hv hv' : Nat → Value} {F F' : Nat → Nat → Prop} {g g' gl : Look}

/-- a frozen region -/
theorem freeze_GRep (hI : Inv w S hv F g) (hl : ∀ c r, gl c = some r → g c = some r) {c : Nat} {r0 : Rg} (h0 : gl c = some r0) (hx : Ext w S hv g w' S' hv' g') (hh : hv' c = hv c)
    (hsame : ∀ b, F c b → w'.heap[b]? = w.heap[b]?) (hFS : ∀ b, F c b → S' b) : GRep w' S' hv' g' F' c (freezeRg gl r0) := by
  have hg0 := hI.rep c r0 (hl _ _ h0)
  unfold freezeRg
  split
  · rename_i t dp n xs
    simp only [GRep] at hg0 ⊢
    refine ⟨⟨t, rfl⟩, ?_⟩
    rw [hh]
    refine RowB_Rep (S := S') (dp := dp) (Fc := F c) (fun _ h => h) hFS (RowB_mono (fun _ h => h) hsame (fun e G cs hG he => ?_) hg0)
    cases dp
    · exact Rep_mono hx.keep hx.sub _ _ _ _ he
    · exact DRep_mono _ _ _ _ _ (fun _ h => h) (fun b hb => hsame b (hG b hb)) he
  · rename_i a
    split
    · rename_i d' hv0
      simp only [GRep] at hg0 ⊢
      obtain ⟨b, arr, T, e1, e2, e3, e4⟩ := hg0
      refine ⟨b, arr.toList, by rw [hh, e1], hFS b e3, ?_, ?_⟩
      · intro j u hj
        simp only [Nat.zero_add, World.cell?, hsame b e3, e2]
        simpa using hj
      · have := view0_sound hI hl _ _ _ _ hv0 (fun _ h => h) (fun b ⟨k, hk, _⟩ => by cases hk) e4
        exact Rep_mono hx.keep hx.sub _ _ _ _ this
    · simp only [GRep]
  · simp only [GRep]
  · simp only [GRep]
  · rename_i h2 h3 h4 h5
    cases r0 with
    | map k v es => exact absurd rfl (h5 _ _ _)
    | row t dp n xs => exact absurd rfl (h2 _ _ _ _)
    | rowl t n xs i q d => exact absurd rfl (h4 _ _ _ _ _ _)
    | box a => exact absurd rfl (h3 _)
    | fz t x =>
      simp only [GRep] at hg0 ⊢
      exact ⟨hg0.1, by rw [hh]; exact Rep_mono hx.keep hx.sub _ _ _ _ hg0.2⟩
    | fzb t x =>
      simp only [GRep] at hg0 ⊢
      obtain ⟨b, cs, e1, e2, e3, e4⟩ := hg0
      exact ⟨b, cs, by rw [hh, e1], hx.sub _ e2, rd_keep hx.keep e2 e3, Rep_mono hx.keep hx.sub _ _ _ _ e4⟩
    | gone => simp only [GRep]

def Rg.isRB : Rg → Bool
  | .row _ _ _ _ => true
  | .box _ => true
  | .map _ _ _ => true
  | _ => false

theorem reb_kinds : ∀ (s : SS) (ds : List D) (r : Reb), reb s ds = some r → r.rs.map (·.1) = s.ids ∧ ∀ e ∈ r.rs, e.2.isRB = true := by
  intro s
  induction s with
  | any => intro ds r h; simp [reb] at h; subst h; exact ⟨rfl, by simp⟩
  | v t => intro ds r h; cases ds <;> simp [reb] at h; subst h; exact ⟨rfl, by simp⟩
  | nl t => intro ds r h; simp [reb] at h; subst h; exact ⟨rfl, by simp⟩
  | sp t => intro ds r h; cases ds <;> simp [reb] at h; subst h; exact ⟨rfl, by simp⟩
  | own c t deep =>
    intro ds r h
    cases ds with
    | nil => simp [reb] at h
    | cons d ds =>
      obtain ⟨u, x⟩ := d
      cases u <;> simp [reb] at h
      subst h
      exact ⟨rfl, by simp [Rg.isRB]⟩
  | map c kt vt =>
    intro ds r h
    cases ds with
    | nil => simp [reb] at h
    | cons d ds =>
      obtain ⟨u, x⟩ := d
      cases u with
      | sl u' =>
        cases u' <;> simp [reb] at h
        subst h
        exact ⟨rfl, by simp [Rg.isRB]⟩
      | _ => simp [reb] at h
  | ref k => intro ds r h; simp [reb] at h; subst h; exact ⟨rfl, by simp⟩
  | subr k t =>
    intro ds r h
    match ds with
    | [] => simp [reb] at h
    | [d] => obtain ⟨u, x⟩ := d; simp [reb] at h
    | d :: e :: ds =>
      obtain ⟨u, x⟩ := d
      obtain ⟨u', y⟩ := e
      cases u <;> try (simp [reb] at h; done)
      rename_i k1
      cases k1 <;> try (simp [reb] at h; done)
      cases u' <;> try (simp [reb] at h; done)
      rename_i k2
      cases k2 <;> try (simp [reb] at h; done)
      simp [reb] at h
      subst h
      exact ⟨rfl, by simp⟩
  | ptr k => intro ds r h; simp [reb] at h; subst h; exact ⟨rfl, by simp⟩
  | unit => intro ds r h; simp [reb] at h; subst h; exact ⟨rfl, by simp⟩
  | one s ih =>
    intro ds r h
    simp only [reb] at h
    split at h <;> try (cases h; done)
    rename_i r1 hr
    simp only [Option.some.injEq] at h
    subst h
    exact ih ds r1 hr
  | clo f s ih =>
    intro ds r h
    simp only [reb] at h
    split at h <;> try (cases h; done)
    rename_i r1 hr
    simp only [Option.some.injEq] at h
    subst h
    exact ih ds r1 hr
  | box k s ih =>
    intro ds r h
    simp only [reb] at h
    split at h <;> try (cases h; done)
    rename_i r1 hr
    simp only [Option.some.injEq] at h
    subst h
    obtain ⟨h1, h2⟩ := ih ds r1 hr
    refine ⟨by simp [SS.ids, h1], fun e he => ?_⟩
    rcases List.mem_cons.1 he with rfl | he
    · rfl
    · exact h2 e he
  | pair s s' ih ih' =>
    intro ds r h
    simp only [reb] at h
    split at h <;> try (cases h; done)
    rename_i r1 hr
    split at h <;> try (cases h; done)
    rename_i r2 hr'
    simp only [Option.some.injEq] at h
    subst h
    obtain ⟨h1, h2⟩ := ih ds r1 hr
    obtain ⟨h3, h4⟩ := ih' _ r2 hr'
    refine ⟨by simp [SS.ids, h1, h3], fun e he => ?_⟩
    rcases List.mem_append.1 he with he | he
    · exact h2 e he
    · exact h4 e he
  | tup s s' ih ih' =>
    intro ds r h
    simp only [reb] at h
    split at h <;> try (cases h; done)
    rename_i r1 hr
    split at h <;> try (cases h; done)
    rename_i r2 hr'
    simp only [Option.some.injEq] at h
    subst h
    obtain ⟨h1, h2⟩ := ih ds r1 hr
    obtain ⟨h3, h4⟩ := ih' _ r2 hr'
    refine ⟨by simp [SS.ids, h1, h3], fun e he => ?_⟩
    rcases List.mem_append.1 he with he | he
    · exact h2 e he
    · exact h4 e he

/-- a region under another name -/
theorem GRep_ren {f : Nat → Nat} {k : Nat} {r : Rg} (hk : r.isRB = true) (h : ∀ c, g c ≠ none → g' (f c) ≠ none ∧ hv' (f c) = hv c ∧ ∀ n, glen g' (f c) = some n → glen g c = some n)
    (hh : hv' (f k) = hv k) (hF : F' (f k) = F k) (hr : GRep w S hv g F k r) : GRep w S hv' g' F' (f k) (r.ren f) := by
  cases r <;> simp [Rg.isRB] at hk
  · simp only [GRep, Rg.ren] at hr ⊢
    rw [hh, hF]
    exact hr
  · simp only [GRep, Rg.ren] at hr ⊢
    rw [hh, hF]
    obtain ⟨b, arr, T, h1, h2, h3, h4⟩ := hr
    exact ⟨b, arr, T, h1, h2, h3, CRep_ren h _ _ _ h4⟩
  · simp only [GRep, Rg.ren] at hr ⊢
    rw [hh, hF]
    exact hr

theorem Rg.ren_owns {f : Nat → Nat} {r : Rg} : (r.ren f).owns = r.owns := by cases r <;> rfl
theorem Rg.ren_len {f : Nat → Nat} {r : Rg} : (r.ren f).len = r.len := by cases r <;> rfl

/-- what stays where a frame ends -/
structure Ends (w : World) (S : Nat → Prop) (hv : Nat → Value) (F : Nat → Nat → Prop) (g : Look) (w' : World) (S' : Nat → Prop) (hv' : Nat → Value) (F' : Nat → Nat → Prop) (g' : Look) : Prop where
  inv : Inv w' S' hv' F' g'
  sub : ∀ b, S b → S' b
  hv : ∀ c, g c ≠ none → g' c ≠ none → hv' c = hv c
  bS : ∀ b, S' b → S b ∨ (∃ c, F c b) ∨ w.heap.size ≤ b
  bF : ∀ c b, F' c b → (∃ c', F c' b) ∨ w.heap.size ≤ b
  fr : ∀ b, b < w.heap.size → (∀ c, ¬ F c b) → w'.heap[b]? = w.heap[b]?
  sz : w.heap.size ≤ w'.heap.size
  st : Still w w'

theorem Step'.then {w1 w2 : World} {S1 S2 : Nat → Prop} {hv1 hv2 : Nat → Value} {F1 F2 : Nat → Nat → Prop} {g1 g2 : Look} (h : Step' w S hv F g w1 S1 hv1 F1 g1) (h' : Ends w1 S1 hv1 F1 g1 w2 S2 hv2 F2 g2) : Ends w S hv F g w2 S2 hv2 F2 g2 where
  inv := h'.inv
  sub := fun b hb => h'.sub b (h.ext.sub b hb)
  hv := fun c h1 h2 => by rw [h'.hv c (h.ext.used c h1) h2, h.ext.hv c h1]
  bS := fun b hb => by
    rcases h'.bS b hb with hb | ⟨c, hb⟩ | hb
    · exact h.bS b hb
    · rcases h.bF c b hb with hb | hb
      · exact .inr (.inl hb)
      · exact .inr (.inr hb)
    · exact .inr (.inr (Nat.le_trans h.sz hb))
  bF := fun c b hb => by
    rcases h'.bF c b hb with ⟨c', hb⟩ | hb
    · exact h.bF c' b hb
    · exact .inr (Nat.le_trans h.sz hb)
  fr := fun b hb hn => by
    rw [h'.fr b (Nat.lt_of_lt_of_le hb h.sz) (fun c hc => ?_), h.fr b hb hn]
    rcases h.bF c b hc with ⟨c', hc'⟩ | hge
    · exact hn c' hc'
    · omega
  sz := Nat.le_trans h.sz h'.sz
  st := h.st.trans h'.st

theorem hasN_iff {l : List Nat} {n : Nat} : hasN l n = true ↔ n ∈ l := by
  induction l with
  | nil => simp [hasN]
  | cons a l ih =>
    simp only [hasN, List.mem_cons]
    cases h : a == n
    · simp only [cond_false, ih]
      have : a ≠ n := by simpa using h
      constructor
      · exact .inr
      · rintro (h | h)
        · exact absurd h.symm this
        · exact h
    · have : a = n := by simpa using h
      simp [this]

theorem placeOk_spec {ids outs : List Nat} {acc : Acc} (h : placeOk ids outs acc = true) : outs.Nodup ∧ ∀ k ∈ outs, k ∈ ids → (k, k, true) ∈ acc.mp := by
  unfold placeOk at h
  simp only [Bool.and_eq_true, List.all_eq_true, Bool.or_eq_true, Bool.not_eq_true', List.any_eq_true, beq_iff_eq] at h
  refine ⟨nodupB_spec h.1.1, fun k hk hi => ?_⟩
  rcases h.2 k hk with h1 | ⟨⟨a, b, f⟩, he, h1⟩
  · rw [← Bool.not_eq_true, hasN_iff] at h1
    exact absurd hi h1
  · simp at h1
    subst h1
    rcases h.1.2 _ he with h2 | h2
    · simp only at h2
      rw [← Bool.not_eq_true, hasN_iff] at h2
      exact absurd hi h2
    · simp at h2
      obtain ⟨rfl, rfl⟩ := h2
      exact he

/-- a frame's end, taken out -/
theorem ends_of {w1 : World} {S1 : Nat → Prop} {hv1 : Nat → Value} {F1 : Nat → Nat → Prop} {g1 gl1 : Look} (h : Step' w S hv F g w1 S1 hv1 F1 g1) {ids outs : List Nat} {acc : Acc} {rs : List (Nat × Rg)} {al : Nat → Value} {fl : Nat → Nat → Prop} {R : (Nat → Prop) → (Nat → Value) → Look → Prop}
    (hd : Down w1 S1 hv1 F1 g1 gl1 outs ⟨[], []⟩ acc rs al fl R) (hok : acc.ok = true) (hpl : placeOk ids outs acc = true) (hids : ∀ c, g c ≠ none → c ∈ ids) :
    ∃ S2, Ends w S hv F g w1 S2 al fl (updReg (fun _ => none) rs) ∧ R S2 al (updReg (fun _ => none) rs) := by
  obtain ⟨hnd, hpl⟩ := placeOk_spec hpl
  obtain ⟨S2, k1, k2, k3, k4, k5, k6⟩ := coerce h.inv hd hnd hok
  refine ⟨S2, ⟨k1, fun b hb => k3 b (h.ext.sub b hb), fun c h1 h2 => ?_, fun b hb => ?_, fun c b hb => ?_, h.fr, h.sz, h.st⟩, k2⟩
  · obtain ⟨r, hr⟩ := Option.ne_none_iff_exists'.1 h2
    have hc : c ∈ outs := by
      rcases updReg_some hr with hm | ⟨_, hm⟩
      · rw [← hd.rsids]; exact List.mem_map.2 ⟨_, hm, rfl⟩
      · cases hm
    have := (k6 _ (hpl c hc (hids c h1))).2 rfl
    simp only at this
    rw [this, h.ext.hv c h1]
  · rcases k4 b hb with hb | ⟨k, _, hb⟩ | ⟨e, _, hb⟩
    · exact h.bS b hb
    · rcases h.bF _ b hb with hb | hb
      · exact .inr (.inl hb)
      · exact .inr (.inr hb)
    · rcases h.bF _ b hb with hb | hb
      · exact .inr (.inl hb)
      · exact .inr (.inr hb)
  · obtain ⟨r, f, _, hb⟩ := k5 c b hb
    exact h.bF _ b hb
end
end Go.Rf

namespace Go.Rf

theorem updReg_hit {l : List (Nat × Rg)} {g : Look} {k : Nat} (h : k ∈ l.map (·.1)) : ∃ r, (k, r) ∈ l ∧ updReg g l k = some r := by
  induction l with
  | nil => cases h
  | cons a l ih =>
    obtain ⟨k', r'⟩ := a
    rw [updReg_cons]
    split
    · rename_i hk
      subst hk
      exact ⟨r', by simp, rfl⟩
    · rename_i hk
      have : k ∈ l.map (·.1) := by simpa [hk] using h
      obtain ⟨r, h1, h2⟩ := ih this
      exact ⟨r, List.mem_cons_of_mem _ h1, h2⟩

theorem updReg_miss {l : List (Nat × Rg)} {g : Look} {k : Nat} (h : k ∉ l.map (·.1)) : updReg g l k = g k := by
  induction l with
  | nil => rfl
  | cons a l ih =>
    obtain ⟨k', r'⟩ := a
    simp only [List.map_cons, List.mem_cons, not_or] at h
    rw [updReg_cons, if_neg h.1]
    exact ih h.2

theorem mapsnd {ren : Nat → Nat} (os : List (Nat × Rg)) : (os.map fun e => (ren e.1, e.2.ren ren)).map (·.1) = os.map fun e => ren e.1 := by simp [List.map_map, Function.comp_def]

section
variable {w w' : World} {S S' S0 : Nat → Prop} {hv hv' : Nat → Value} {F F' : Nat → Nat → Prop} {g g' gl : Look}

/-- a header tells a row's length -/
theorem GRep_len {c : Nat} {r : Rg} {n : Nat} (h : GRep w S hv g F c r) (ho : r.owns = true) (hn : r.len = some n) : ∃ m, Hdr m n (hv c) := by
  cases r with
  | row t dp m xs =>
    simp only [Rg.len, Option.some.injEq] at hn
    subst hn
    simp only [GRep] at h
    rcases RowB_hdr h with ⟨h1, h2, h3⟩ | ⟨h1, h2, b, o, cap, h3, h4⟩
    · subst h2; rw [h3]; exact ⟨true, .inl ⟨rfl, rfl, rfl⟩⟩
    · rw [h3]; exact ⟨false, .inr ⟨rfl, h2, b, o, cap, rfl, h4⟩⟩
  | rowl t m xs i q d =>
    simp only [Rg.len, Option.some.injEq] at hn
    subst hn
    simp only [GRep] at h
    rcases RowB_hdr h.2.2 with ⟨h1, h2, h3⟩ | ⟨h1, h2, b, o, cap, h3, h4⟩
    · have : xs.length = 0 := by simpa using congrArg List.length h2
      rw [h3, this]; exact ⟨true, .inl ⟨rfl, rfl, rfl⟩⟩
    · simp at h2 h3 h4
      rw [h3]; exact ⟨false, .inr ⟨rfl, h2, b, o, cap, rfl, h4⟩⟩
  | fz t x =>
    simp [Rg.owns] at ho
  | box a => simp [Rg.len] at hn
  | fzb t x => simp [Rg.len] at hn
  | gone => simp [Rg.len] at hn
  | map k v es => simp [Rg.len] at hn

theorem len_of_hdr {r : Rg} {c : Nat} {n : Nat} {m : Bool} (hr : GRep w S hv g F c r) (ho : r.owns = true) (hh : Hdr m n (hv c)) : r.len = some n := by
  have hk : ∃ k, r.len = some k := by
    cases r <;> simp [Rg.owns] at ho
    · exact ⟨_, rfl⟩
    · exact ⟨_, rfl⟩
    · simp only [GRep] at hr
      obtain ⟨b, arr, T, h1, _⟩ := hr
      rcases hh with ⟨_, _, h⟩ | ⟨_, _, b', o, cap, h, _⟩ <;> rw [h1] at h <;> cases h
    · simp only [GRep] at hr
      obtain ⟨_, b, arr, clk, h1, _⟩ := hr
      rcases hh with ⟨_, _, h⟩ | ⟨_, _, b', o, cap, h, _⟩ <;> rw [h1] at h <;> cases h
  obtain ⟨k, hk⟩ := hk
  obtain ⟨m2, h2⟩ := GRep_len hr ho hk
  have : k = n := by
    rcases hh with ⟨_, e1, h⟩ | ⟨_, _, b', o, cap, h, _⟩
    · rcases h2 with ⟨_, e2, _⟩ | ⟨_, _, b', o, cap, h', _⟩
      · omega
      · rw [h] at h'; cases h'
    · rcases h2 with ⟨_, _, h'⟩ | ⟨_, _, b', o, cap, h', _⟩
      · rw [h] at h'; cases h'
      · rw [h] at h'; cases h'; rfl
  rw [hk, this]

def frzIf (sh : Bool) (l : List (Nat × Rg)) : List (Nat × Rg) := match sh with
  | true => l
  | false => []

def selS (sh : Bool) (A B : Nat → Prop) : Nat → Prop := match sh with
  | true => A
  | false => B

/-- a frame of its own ends: what the frame around it is then -/
theorem up_step (hI : Inv w S hv F g) (hl : ∀ c r, gl c = some r → g c = some r) {ids : List Nat} {acc : Acc} {rs : List (Nat × Rg)} {al : Nat → Value} {fl : Nat → Nat → Prop} {R : (Nat → Prop) → (Nat → Value) → Look → Prop}
    (hd : Down w S hv F g gl ids ⟨[], []⟩ acc rs al fl R) (hok : acc.ok = true)
    (hc1 : ∀ b, S b → S0 b) (hc2 : ∀ b, S0 b → S b ∨ FL F acc.vw b ∨ ∃ e ∈ acc.mp, F e.2.1 b) (hc3 : ∀ k b, fl k b → ∃ r f, (k, r, f) ∈ acc.mp ∧ F r b) (hc4 : ∀ e ∈ acc.mp, e.1 ∈ ids ∧ (e.2.2 = true → al e.1 = hv e.2.1))
    {F' : Nat → Nat → Prop} {os : List (Nat × Rg)} (he : Ends w S0 al fl (updReg (fun _ => none) rs) w' S' hv' F' (updReg (fun _ => none) os)) (hos : (os.map (·.1)).Nodup) (hrb : ∀ e ∈ os, e.2.isRB = true) (ren : Nat → Nat) (sh : Bool) (hsh : sh = false → ∀ e ∈ os, apartRg e.2 = true)
    (hren : ∀ e ∈ os, (∃ m ∈ acc.mp, m.1 = e.1 ∧ ren e.1 = m.2.1 ∧ m.2.2 = true) ∨ g (ren e.1) = none) (hnd : (os.map fun e => ren e.1).Nodup) :
    ∃ S'' hv'' F'' g'', g'' = updReg g ((os.map fun e => (ren e.1, e.2.ren ren)) ++ ((acc.mp.filter fun e => !((os.map fun e => (ren e.1, e.2.ren ren)).any fun n => n.1 == e.2.1)).map fun e => (e.2.1, Rg.gone)) ++ (frzIf sh (frozen gl acc.vw))) ∧ Step' w S hv F g w' S'' hv'' F'' g'' ∧
      ∀ (a : SV) (m : Bool) (cs : List Value), (sh = false → apartSV a = true) → CRep w' S' hv' (updReg (fun _ => none) os) m a cs → CRep w' S'' hv'' g'' m (a.ren ren) cs := by
  classical
  obtain ⟨ok1, ok2⟩ := Acc.ok_spec hok
  -- names
  let pre : Nat → Option Nat := fun c => (os.find? fun e => ren e.1 == c).map (·.1)
  have pre_some : ∀ c k, pre c = some k → ∃ r, (k, r) ∈ os ∧ ren k = c := by
    intro c k h
    simp only [pre, Option.map_eq_some_iff] at h
    obtain ⟨⟨k', r⟩, h1, rfl⟩ := h
    have h2 := List.find?_some h1
    simp at h2
    exact ⟨r, List.mem_of_find?_eq_some h1, h2⟩
  have pre_of : ∀ e ∈ os, pre (ren e.1) = some e.1 := by
    intro e hm
    cases hp : os.find? (fun e' => ren e'.1 == ren e.1) with
    | none =>
      have := List.find?_eq_none.1 hp e hm
      simp at this
    | some e' =>
      have h1 := List.mem_of_find?_eq_some hp
      have h2 := List.find?_some hp
      simp at h2
      have : e' = e := nodup_inj hnd h1 hm h2
      subst this
      simp [pre, hp]
  have pre_none : ∀ c, pre c = none → c ∉ os.map fun e => ren e.1 := by
    intro c h hm
    obtain ⟨e, he', rfl⟩ := List.mem_map.1 hm
    rw [pre_of e he'] at h
    cases h
  let mapped : Nat → Prop := fun c => ∃ e ∈ acc.mp, e.2.1 = c
  have mapped_g : ∀ c, mapped c → ∃ r, gl c = some r ∧ r.owns = true := by
    rintro c ⟨e, he', rfl⟩
    rcases hd.mpnew e he' with h | ⟨_, _, h⟩
    · cases h
    · exact h
  have vw_g : ∀ c ∈ acc.vw, gl c ≠ none := by
    intro c hc
    rcases hd.vwnew c hc with h | h
    · cases h
    · exact h
  have vw_not : ∀ c ∈ acc.vw, ¬ mapped c := by
    rintro c hc ⟨e, he', h⟩
    exact ok2 c hc e he' h
  -- the new names: either mapped or new
  have news : ∀ c k, pre c = some k → (∃ m ∈ acc.mp, m.1 = k ∧ m.2.1 = c ∧ m.2.2 = true) ∨ g c = none := by
    intro c k h
    obtain ⟨r, h1, h2⟩ := pre_some c k h
    rcases hren _ h1 with ⟨m, m1, m2, m3, m4⟩ | h3
    · exact .inl ⟨m, m1, m2, by rw [← h2]; exact m3.symm, m4⟩
    · exact .inr (by rw [← h2]; exact h3)
  have pre_vw : ∀ c, c ∈ acc.vw → pre c = none := by
    intro c hc
    cases hp : pre c with
    | none => rfl
    | some k =>
      rcases news c k hp with ⟨m, m1, _, m3, _⟩ | h
      · exact absurd ⟨m, m1, m3⟩ (vw_not c hc)
      · have := vw_g c hc
        obtain ⟨r, hr⟩ := Option.ne_none_iff_exists'.1 this
        rw [hl _ _ hr] at h; cases h
  let G : Look := updReg g ((os.map fun e => (ren e.1, e.2.ren ren)) ++ ((acc.mp.filter fun e => !((os.map fun e => (ren e.1, e.2.ren ren)).any fun n => n.1 == e.2.1)).map fun e => (e.2.1, Rg.gone)) ++ (frzIf sh (frozen gl acc.vw)))
  have G_new : ∀ c k, pre c = some k → ∃ r, (k, r) ∈ os ∧ G c = some (r.ren ren) := by
    intro c k h
    obtain ⟨r, h1, h2⟩ := pre_some c k h
    refine ⟨r, h1, ?_⟩
    simp only [G, List.append_assoc]
    rw [updReg_append]
    exact updReg_mem (by rw [mapsnd]; exact hnd) (List.mem_map.2 ⟨(k, r), h1, by simp [h2]⟩)
  have G_old : ∀ c, pre c = none → G c = if mapped c then some .gone else if sh = true ∧ c ∈ acc.vw then some (frzOf gl c) else g c := by
    intro c h
    have h0 := pre_none c h
    simp only [G, List.append_assoc]
    rw [updReg_append, updReg_miss (by rw [mapsnd]; exact h0), updReg_append]
    have hg : (((acc.mp.filter fun e => !((os.map fun e => (ren e.1, e.2.ren ren)).any fun n => n.1 == e.2.1)).map fun e => (e.2.1, Rg.gone))) = (((acc.mp.filter fun e => !((os.map fun e => (ren e.1, e.2.ren ren)).any fun n => n.1 == e.2.1)).map fun e => e.2.1).map fun c => (c, Rg.gone)) := by simp [List.map_map, Function.comp_def]
    rw [hg, updReg_gone]
    have hmem : (c ∈ (acc.mp.filter fun e => !((os.map fun e => (ren e.1, e.2.ren ren)).any fun n => n.1 == e.2.1)).map fun e => e.2.1) ↔ mapped c := by
      simp only [List.mem_map, List.mem_filter, Bool.not_eq_true', List.any_eq_false, beq_iff_eq, mapped]
      constructor
      · rintro ⟨e, ⟨h1, _⟩, h2⟩; exact ⟨e, h1, h2⟩
      · rintro ⟨e, h1, h2⟩
        refine ⟨e, ⟨h1, ?_⟩, h2⟩
        rintro ⟨a, r⟩ hx heq
        simp only at heq
        subst heq
        obtain ⟨e0, h3, h4⟩ := hx
        simp only [Prod.mk.injEq] at h4
        exact h0 (List.mem_map.2 ⟨e0, h3, by rw [h4.1, h2]⟩)
    simp only [hmem]
    split
    · rfl
    · cases sh
      · simp [updReg_nil, frzIf]
      · simp only [true_and, frzIf]
        rw [updReg_frozen]
  let HV : Nat → Value := fun c => match pre c with
    | some k => hv' k
    | none => hv c
  let FF : Nat → Nat → Prop := fun c b => match pre c with
    | some k => F' k b
    | none => if mapped c then False else if sh = true ∧ c ∈ acc.vw then False else F c b
  let SS' : Nat → Prop := selS sh (fun b => S' b ∨ FL F acc.vw b) S
  have HV_new : ∀ c k, pre c = some k → HV c = hv' k := fun c k h => by simp only [HV, h]
  have HV_old : ∀ c, pre c = none → HV c = hv c := fun c h => by simp only [HV, h]
  have FF_new : ∀ c k, pre c = some k → FF c = F' k := fun c k h => by funext b; simp only [FF, h]
  have FF_old : ∀ c b, pre c = none → FF c b → ¬ mapped c ∧ ¬ (sh = true ∧ c ∈ acc.vw) ∧ F c b := by
    intro c b h hb
    simp only [FF, h] at hb
    split at hb
    · exact hb.elim
    · split at hb
      · exact hb.elim
      · rename_i h1 h2; exact ⟨h1, h2, hb⟩
  -- the callee's regions
  have rs_g : ∀ k, k ∈ ids → updReg (fun _ => none) rs k ≠ none := by
    intro k hk
    rw [← hd.rsids] at hk
    obtain ⟨r, _, hr⟩ := updReg_hit (g := fun _ => none) hk
    rw [hr]; simp
  have os_g : ∀ e ∈ os, updReg (fun _ => none) os e.1 = some e.2 := fun e hm => updReg_mem hos hm
  have hv_keep : ∀ c k, pre c = some k → g c ≠ none → hv' k = hv c := by
    intro c k h hc
    obtain ⟨r, h1, h2⟩ := pre_some c k h
    rcases news c k h with ⟨m, m1, rfl, rfl, m4⟩ | h3
    · obtain ⟨q1, q2⟩ := hc4 m m1
      rw [he.hv m.1 (rs_g _ q1) (by rw [os_g _ h1]; simp), q2 m4]
    · exact absurd h3 hc
  have flF : ∀ k b, fl k b → ∃ c, mapped c ∧ F c b := by
    intro k b hb
    obtain ⟨r, f, h1, h2⟩ := hc3 k b hb
    exact ⟨r, ⟨_, h1, rfl⟩, h2⟩
  have hlen : ∀ c k r, pre c = some k → (k, r) ∈ os → g c ≠ none → ∀ n, r.len = some n → glen g c = some n := by
    intro c k r h hm hc n hn
    have hgr := he.inv.rep k r (os_g _ hm)
    obtain ⟨m0, h1⟩ := GRep_len hgr (by have := hrb _ hm; cases r <;> simp [Rg.isRB] at this <;> rfl) hn
    rw [hv_keep c k h hc] at h1
    rcases news c k h with ⟨m, m1, _, m3, _⟩ | h3
    · obtain ⟨r0, h4, h5⟩ := mapped_g c ⟨m, m1, m3⟩
      have h6 := hl _ _ h4
      simp only [glen, h6]
      exact len_of_hdr (hI.rep c r0 h6) h5 h1
    · exact absurd h3 hc
  let IDS : Nat → Prop := fun c => pre c ≠ none ∨ mapped c ∨ (sh = true ∧ c ∈ acc.vw)
  have hF0 : ∀ c, ¬ IDS c → pre c = none ∧ ¬ mapped c ∧ ¬ (sh = true ∧ c ∈ acc.vw) := by
    intro c hc
    simp only [IDS, not_or, Classical.not_not] at hc
    exact hc
  have hnewF : ∀ k b, F' k b → (∃ c, mapped c ∧ F c b) ∨ w.heap.size ≤ b := by
    intro k b hb
    rcases he.bF k b hb with ⟨k', h1⟩ | h1
    · exact .inl (flF k' b h1)
    · exact .inr h1
  have hst0 := he.st
  have hstep : Step' w S hv F g w' SS' HV FF G := by
    refine mkStep hI IDS ?_ ?_ he.sz ?_ ?_ ?_ ?_ ?_ ?_ ?_ ?_ ?_ ?_ ?_ ?_ ?_
    · intro c hc
      obtain ⟨h1, h2, h3⟩ := hF0 c hc
      rw [G_old c h1, if_neg h2, if_neg h3]
    · intro c hc
      obtain ⟨h1, h2, h3⟩ := hF0 c hc
      funext b
      simp only [FF, h1, h2, h3, if_false]
    · intro b hb hn
      refine he.fr b hb fun k hk => ?_
      obtain ⟨c, h1, h2⟩ := flF k b hk
      exact hn c (.inr (.inl h1)) h2
    · intro b hb
      simp only [SS']
      cases hshv : sh
      · exact hb
      · exact .inl (he.sub b (hc1 b hb))
    · intro c hc
      cases hp : pre c with
      | none => exact HV_old c hp
      | some k => rw [HV_new c k hp]; exact hv_keep c k hp hc
    · intro c hc hg
      cases hp : pre c with
      | some k =>
        obtain ⟨r, _, h⟩ := G_new c k hp
        rw [h]; simp
      | none =>
        rw [G_old c hp]
        split
        · simp
        · split
          · simp
          · exact hg
    · intro c n hc hg hn
      cases hp : pre c with
      | some k =>
        obtain ⟨r, h1, h⟩ := G_new c k hp
        simp only [glen, h, Rg.ren_len] at hn
        exact hlen c k r hp h1 hg n hn
      | none =>
        simp only [glen, G_old c hp] at hn
        split at hn
        · rename_i h; split at h
          · simp at h; subst h; simp [Rg.len] at hn
          · split at h
            · rename_i hm hv2
              obtain ⟨r0, h0⟩ := Option.ne_none_iff_exists'.1 (vw_g c hv2.2)
              simp only [frzOf, h0, Option.some.injEq] at h
              subst h
              simp only [glen, hl _ _ h0]
              exact freezeRg_len r0 n hn
            · simp only [glen, h]; exact hn
        · cases hn
    · intro hx c r hc hr
      have hsameF : ∀ c' b, ¬ mapped c' → F c' b → w'.heap[b]? = w.heap[b]? := by
        intro c' b h1 hb
        refine he.fr b (hI.old c' b hb) fun k hk => ?_
        obtain ⟨c2, h2, h3⟩ := flF k b hk
        exact h1 (hI.disj c2 c' b h3 hb ▸ h2)
      cases hp : pre c with
      | some k =>
        obtain ⟨r0, h1, h⟩ := G_new c k hp
        rw [h] at hr
        simp only [Option.some.injEq] at hr
        subst hr
        obtain ⟨_, _, h2⟩ := pre_some c k hp
        have hgr := he.inv.rep k r0 (os_g _ h1)
        have hgr' : GRep w' SS' hv' (updReg (fun _ => none) os) F' k r0 := by
          cases hshv : sh with
          | false => exact GRep_apart (hsh hshv _ h1) hgr
          | true =>
            have hext : Ext w' S' hv' (updReg (fun _ => none) os) w' SS' hv' (updReg (fun _ => none) os) := ⟨fun _ _ _ _ h => h, fun b hb => by simp only [SS', hshv, selS]; exact .inl hb, fun _ _ => rfl, fun _ h => h, fun _ _ _ h => h⟩
            exact GRep_mono hext (by rw [os_g _ h1]; simp) (fun _ h => h) (fun _ _ => rfl) hgr
        rw [← h2]
        refine GRep_ren (hrb _ h1) ?_ ?_ ?_ hgr'
        · intro c' hc'
          obtain ⟨r', hr'⟩ := Option.ne_none_iff_exists'.1 hc'
          have hm' : (c', r') ∈ os := by
            rcases updReg_some hr' with h | ⟨_, h⟩
            · exact h
            · cases h
          have hp' := pre_of _ hm'
          obtain ⟨r2, k2, k3⟩ := G_new _ _ hp'
          have : r2 = r' := by
            have := os_g _ k2
            simp only at this
            rw [hr'] at this
            simpa using this.symm
          subst this
          refine ⟨by rw [k3]; simp, HV_new _ _ hp', fun n hn => ?_⟩
          simp only [glen, k3, Rg.ren_len] at hn
          simp only [glen, hr', hn]
        · rw [h2]; exact HV_new c k hp
        · rw [h2]; exact FF_new c k hp
      | none =>
        rw [G_old c hp] at hr
        split at hr
        · simp only [Option.some.injEq] at hr
          subst hr
          simp only [GRep]
        · rename_i hm
          split at hr
          · rename_i hv2
            obtain ⟨r0, h0⟩ := Option.ne_none_iff_exists'.1 (vw_g c hv2.2)
            simp only [frzOf, h0, Option.some.injEq] at hr
            subst hr
            refine freeze_GRep hI hl h0 hx (HV_old c hp) (fun b hb => hsameF c b hm hb) fun b hb => ?_
            simp only [SS', hv2.1, selS]
            exact .inr ⟨c, hv2.2, hb⟩
          · rename_i hv2
            rcases hc with hc | hc | hc
            · exact absurd hp hc
            · exact absurd hc hm
            · exact absurd hc hv2
    · intro c b hc hb
      cases hp : pre c with
      | some k =>
        rw [FF_new c k hp] at hb
        obtain ⟨r, h1, h2⟩ := he.inv.live k b hb
        obtain ⟨r2, k2, k3⟩ := G_new _ _ hp
        have : r2 = r := by
          have := os_g _ k2
          simp only at this
          rw [h1] at this
          simpa using this.symm
        subst this
        exact ⟨_, k3, by rw [Rg.ren_owns]; exact h2⟩
      | none =>
        obtain ⟨h1, h2, h3⟩ := FF_old c b hp hb
        rcases hc with hc | hc | hc
        · exact absurd hp hc
        · exact absurd hc h1
        · exact absurd hc h2
    · intro c b hc hb
      cases hp : pre c with
      | some k =>
        rw [FF_new c k hp] at hb
        rcases hnewF k b hb with ⟨c', h1, h2⟩ | h1
        · exact .inl ⟨c', .inr (.inl h1), h2⟩
        · exact .inr h1
      | none =>
        obtain ⟨h1, h2, h3⟩ := FF_old c b hp hb
        rcases hc with hc | hc | hc
        · exact absurd hp hc
        · exact absurd hc h1
        · exact absurd hc h2
    · intro c b hc hb
      cases hp : pre c with
      | some k => rw [FF_new c k hp] at hb; exact he.inv.old k b hb
      | none => exact Nat.lt_of_lt_of_le (hI.old c b (FF_old c b hp hb).2.2) he.sz
    · intro c c' b hc hc' hb hb'
      cases hp : pre c with
      | some k =>
        rw [FF_new c k hp] at hb
        cases hp' : pre c' with
        | some k' =>
          rw [FF_new c' k' hp'] at hb'
          have := he.inv.disj k k' b hb hb'
          subst this
          obtain ⟨_, _, h1⟩ := pre_some c k hp
          obtain ⟨_, _, h2⟩ := pre_some c' k hp'
          rw [← h1, ← h2]
        | none =>
          obtain ⟨h1, h2, h3⟩ := FF_old c' b hp' hb'
          rcases hc' with hc' | hc' | hc'
          · exact absurd hp' hc'
          · exact absurd hc' h1
          · exact absurd hc' h2
      | none =>
        obtain ⟨h1, h2, h3⟩ := FF_old c b hp hb
        rcases hc with hc | hc | hc
        · exact absurd hp hc
        · exact absurd hc h1
        · exact absurd hc h2
    · intro b hb
      simp only [SS'] at hb
      cases hshv : sh with
      | false => rw [hshv] at hb; exact .inl hb
      | true =>
        rw [hshv] at hb
        rcases hb with hb | ⟨c, hc, hb⟩
        · rcases he.bS b hb with hb | ⟨k, hb⟩ | hb
          · rcases hc2 b hb with hb | ⟨c, hc, hb⟩ | ⟨e, hem, hb⟩
            · exact .inl hb
            · exact .inr (.inl ⟨c, .inr (.inr ⟨hshv, hc⟩), hb⟩)
            · exact .inr (.inl ⟨e.2.1, .inr (.inl ⟨e, hem, rfl⟩), hb⟩)
          · obtain ⟨c, h1, h2⟩ := flF k b hb
            exact .inr (.inl ⟨c, .inr (.inl h1), h2⟩)
          · exact .inr (.inr hb)
        · exact .inr (.inl ⟨c, .inr (.inr ⟨hshv, hc⟩), hb⟩)
    · intro b hb
      simp only [SS'] at hb
      cases hshv : sh with
      | false => rw [hshv] at hb; exact Nat.lt_of_lt_of_le (hI.sold b hb) he.sz
      | true =>
        rw [hshv] at hb
        rcases hb with hb | ⟨c, hc, hb⟩
        · exact he.inv.sold b hb
        · exact Nat.lt_of_lt_of_le (hI.old c b hb) he.sz
    · intro c b hc hb hs
      cases hp : pre c with
      | some k =>
        rw [FF_new c k hp] at hb
        simp only [SS'] at hs
        cases hshv : sh with
        | false =>
          rw [hshv] at hs
          exact he.inv.shr k b hb (he.sub b (hc1 b hs))
        | true =>
          rw [hshv] at hs
          rcases hs with hs | ⟨c2, hc2', hb2⟩
          · exact he.inv.shr k b hb hs
          · rcases hnewF k b hb with ⟨c', h1, h2⟩ | h1
            · exact vw_not c2 hc2' (hI.disj c' c2 b h2 hb2 ▸ h1)
            · exact absurd (hI.old c2 b hb2) (by omega)
      | none =>
        obtain ⟨h1, h2, h3⟩ := FF_old c b hp hb
        rcases hc with hc | hc | hc
        · exact absurd hp hc
        · exact absurd hc h1
        · exact absurd hc h2
  refine ⟨SS', HV, FF, G, rfl, hstep, fun a m cs ha hcs => ?_⟩
  have hcs' : CRep w' SS' hv' (updReg (fun _ => none) os) m a cs := by
    cases hshv : sh with
    | false => exact CRep_apart _ _ _ (ha hshv) hcs
    | true =>
      have hext : Ext w' S' hv' (updReg (fun _ => none) os) w' SS' hv' (updReg (fun _ => none) os) := ⟨fun _ _ _ _ h => h, fun b hb => by simp only [SS', hshv, selS]; exact .inl hb, fun _ _ => rfl, fun _ h => h, fun _ _ _ h => h⟩
      exact CRep_mono hext _ _ _ hcs
  refine CRep_ren ?_ _ _ _ hcs'
  intro c' hc'
  obtain ⟨r', hr'⟩ := Option.ne_none_iff_exists'.1 hc'
  have hm' : (c', r') ∈ os := by
    rcases updReg_some hr' with h | ⟨_, h⟩
    · exact h
    · cases h
  have hp' := pre_of _ hm'
  obtain ⟨r2, k2, k3⟩ := G_new _ _ hp'
  have : r2 = r' := by
    have := os_g _ k2
    simp only at this
    rw [hr'] at this
    simpa using this.symm
  subst this
  refine ⟨by rw [k3]; simp, HV_new _ _ hp', fun n hn => ?_⟩
  simp only [glen, k3, Rg.ren_len] at hn
  simp only [glen, hr', hn]
end
end Go.Rf

namespace Go.Rf

def resOf (n : Nat) (a : SV) : SV := match tupDrop n a with
  | .tup a .unit => a
  | a => a

/-- a function's contract at one pair of what comes in and out -/
def CallOk (P : Program) (H : Hints) (key : Nat) (x : Den (tyOf (aTys H key))) (y : Den (tyOf (rTys H key))) : Prop :=
  ∀ h, H.key key = some h → ∃ r, reb h.pars (unpack (aTys H key) x) = some r ∧ h.pars.ids.Nodup ∧ h.outs.ids.Nodup ∧ h.pars.isChain = true ∧
    ∀ (w : World) (S : Nat → Prop) (hv : Nat → Value) (F : Nat → Nat → Prop) (vs : List Value), Inv w S hv F (updReg (fun _ => none) r.rs) → CRep w S hv (updReg (fun _ => none) r.rs) true r.sv vs →
      Calls P h.fid vs.toArray w fun e w' => ∃ v s, e = .returned v ∧ reb h.outs (unpack (rTys H key) y) = some s ∧ ∃ S' hv' F', Ends w S hv F (updReg (fun _ => none) r.rs) w' S' hv' F' (updReg (fun _ => none) s.rs) ∧ VR w' S' hv' (updReg (fun _ => none) s.rs) (resOf h.bk.length s.sv) v

section
variable {P : Program} {H : Hints} {w w' : World} {S S' : Nat → Prop} {hv hv' : Nat → Value} {F F' : Nat → Nat → Prop} {g g' gl : Look}

theorem VR_by {f : Nat → Nat} {w1 : World} {S1 : Nat → Prop} {hv1 : Nat → Value} {g1 : Look} {a : SV} {v : Value} (h : ∀ m cs, CRep w S hv g m a cs → CRep w1 S1 hv1 g1 m (a.ren f) cs) (hr : VR w S hv g a v) : VR w1 S1 hv1 g1 (a.ren f) v := by
  have hV0 : V0 (CRep w S hv g false a) a v → V0 (CRep w1 S1 hv1 g1 false (a.ren f)) (a.ren f) v := by
    intro hp
    obtain ⟨s1, s2, _⟩ := ren_isSt (f := f) a
    rcases hp with hp | ⟨h1, cs, h2, h3⟩ | ⟨h1, h2⟩
    · exact .inl (by rw [s2]; exact hp)
    · exact .inr (.inl ⟨by rw [s1]; exact h1, cs, h2, h _ _ h3⟩)
    · exact .inr (.inr ⟨by rw [s1]; exact h1, h _ _ h2⟩)
  cases a with
  | dead => trivial
  | unit => exact hr
  | tup x y =>
    obtain ⟨vs, rfl, hc⟩ := hr
    exact ⟨vs, rfl, h _ _ hc⟩
  | _ => exact hV0 hr

theorem apart_tupDrop : ∀ (n : Nat) (a : SV), apartSV a = true → apartSV (tupDrop n a) = true
  | 0, a, h => by simpa [tupDrop] using h
  | n + 1, a, h => by
    cases a with
    | tup x y =>
      simp only [apartSV, Bool.and_eq_true] at h
      simp only [tupDrop]
      exact apart_tupDrop n y h.2
    | _ => simpa [tupDrop] using h

theorem apart_resOf {n : Nat} {a : SV} (h : apartSV a = true) : apartSV (resOf n a) = true := by
  have h1 := apart_tupDrop n a h
  unfold resOf
  split
  · rename_i x hx
    rw [hx] at h1
    simp only [apartSV, Bool.and_eq_true] at h1
    exact h1.1
  · exact h1

theorem run_callFunc (hf : Fit P H) {key : Nat} {h : FnH} (hk : H.key key = some h) (args : Array Value) : (callFunc h.fid args).run P w = .ok (.enter h.fid args) w := by
  obtain ⟨h1, h2, h3⟩ := hf.fn key h hk
  have hb : h.f.body ≠ none := by intro hbd; rw [hbd] at h2; cases h2
  have h4 : h.f.name ≠ "runtime.NumGoroutine" := by simpa using h3
  simp [callFunc, h1, h4, hb]

theorem call_sound (hf : Fit P H) (hI : Inv w S hv F g) (hl : ∀ c r, gl c = some r → g c = some r) {p : Fns H} (hp : ∀ key x y, p.call key x = some y → CallOk P H key x y) {d key f : Nat} {args : SV} {vs : List Value}
    (ha : CRep w S hv g true args vs) {e : Eff} (he : (callE H p gl d key f args).run = some e) (hup : ∀ c r, (c, r) ∈ e.upd → gl c = none → g c = none) :
    Res P ((callFunc f vs.toArray).run P w) (Out w S hv F g e) := by
  have hfail : ∀ {e : Eff}, (M.fail : M Eff).run = some e → False := fun h => by simp [M.run] at h
  unfold callE at he
  split at he
  · exact (hfail he).elim
  rename_i h hk
  split at he
  · exact (hfail he).elim
  rename_i hfid
  have hfid := eq_of_beq hfid
  subst hfid
  rw [M.run_bind] at he
  cases hx1 : (ext gl h.pars args ⟨[], []⟩).run with
  | none => simp [hx1] at he
  | some r1 =>
    obtain ⟨ds, acc⟩ := r1
    simp only [hx1, Option.bind_some] at he
    split at he
    · rename_i x hok hpk
      simp only [M.run] at he
      cases hy : p.call key x with
      | none => simp [hy] at he
      | some y =>
        simp only [hy, Option.bind_some] at he
        split at he
        · rename_i s hs
          split at he
          · exact (hfail he).elim
          · rename_i hchk
            have hchk := Bool.and_eq_true_iff.1 hchk
            have hchk : _ ∧ ∀ e ∈ s.rs, _ := ⟨hchk.1, List.all_eq_true.1 hchk.2⟩
            simp only [M.run, Option.some.injEq] at he
            obtain ⟨r, k1, k3, k4, hch, k5⟩ := hp key x y hy h hk
            have hany : h.pars.isAny = false := by cases hp' : h.pars <;> rw [hp'] at hch <;> first | rfl | simp [SS.isChain] at hch
            have t := ext_down hI hl h.pars args ⟨[], []⟩ acc ds vs hx1 k3 hany (by rw [hch]; exact ha)
            rw [hch] at t
            obtain ⟨sv, rs, al, fl, t1, _, t3⟩ := t
            obtain ⟨S0, c1, c2, c3, c4, c5, c6⟩ := coerce hI t3 k3 hok
            have hun := unpack_pack _ _ _ hpk
            rw [hun] at k1
            have t1' := t1 []
            rw [List.append_nil, k1] at t1'
            simp only [Option.some.injEq] at t1'
            subst t1'
            rw [run_callFunc hf hk]
            simp only [Res]
            refine (k5 w S0 al fl vs c1 c2).mono fun e' w' hend => ?_
            obtain ⟨v, s', rfl, k2, S', hv', F', hE, hV⟩ := hend
            rw [hs] at k2
            simp only [Option.some.injEq] at k2
            subst k2
            refine ⟨v, rfl, ?_⟩
            obtain ⟨q1, q2⟩ := reb_kinds _ _ _ hs
            have hos : (s.rs.map (·.1)).Nodup := by rw [q1]; exact k4
            let ren : Nat → Nat := fun c => match acc.mp.find? fun e => e.1 == c with
              | some e => e.2.1
              | none => d + 4096 * (c + 1)
            have hnd : (s.rs.map fun e => ren e.1).Nodup := by
              have := nodupB_spec hchk.1
              rw [List.map_map] at this
              exact this
            have happ : shared h.outs = false → apartSV s.sv = true ∧ ∀ e ∈ s.rs, apartRg e.2 = true := by
              intro hsh
              have hty := unpack_types (rTys H key) y
              have hrt : rTys H key = h.outs.tys := by simp [rTys, hk]
              have := reb_apart h.outs _ s.rest [] s.sv s.rs hsh hs (by rw [hty, hrt, List.append_nil])
              exact ⟨this.1, this.2.1⟩
            have hren : ∀ e ∈ s.rs, (∃ m ∈ acc.mp, m.1 = e.1 ∧ ren e.1 = m.2.1 ∧ m.2.2 = true) ∨ g (ren e.1) = none := by
              intro e' hem
              have hc := hchk.2 e' hem
              cases hfd : acc.mp.find? (fun m => m.1 == e'.1) with
              | some m =>
                rw [hfd] at hc
                have h1 := List.mem_of_find?_eq_some hfd
                have h2 := List.find?_some hfd
                simp at h2
                exact .inl ⟨m, h1, h2, by simp only [ren, hfd], hc⟩
              | none =>
                rw [hfd] at hc
                refine .inr ?_
                have h3 : ren e'.1 = d + 4096 * (e'.1 + 1) := by simp only [ren, hfd]
                rw [h3]
                refine hup _ (e'.2.ren ren) ?_ ?_
                · rw [← he, ← h3]
                  simp only [List.append_assoc]
                  exact List.mem_append_left _ (List.mem_map.2 ⟨e', hem, rfl⟩)
                · simp only at hc
                  split at hc
                  · assumption
                  · cases hc
            obtain ⟨S'', hv'', F'', g'', u1, u2, u3⟩ := up_step hI hl t3 hok c3 c4 c5 c6 hE hos q2 ren (shared h.outs) (fun h => (happ h).2) hren hnd
            have hupd : updReg g e.upd = g'' := by
              rw [u1, ← he]
              rfl
            refine Out.mk hupd u2 ?_
            have hval : e.val = (resOf h.bk.length s.sv).ren ren := by
              rw [← he]
              rfl
            rw [hval]
            exact VR_by (fun m cs hc => u3 _ m cs (fun hsh => apart_resOf (happ hsh).1) hc) hV
        · exact (hfail he).elim
    · exact (hfail he).elim
end
end Go.Rf

namespace Go.Rf

section
variable {P : Program} {H : Hints} {w w' : World} {S S' : Nat → Prop} {hv hv' : Nat → Value} {F F' : Nat → Nat → Prop} {g g' gl : Look}

theorem CRep_tupApp {caps : SV} {ps : List Value} (hc : CRep w S hv g true caps ps) : ∀ (as : List SV) (vs : List Value), CRep w S hv g true (tupOf as) vs → CRep w S hv g true (tupApp (tupOf as) caps) (vs ++ ps)
  | [], vs, h => by
    simp only [tupOf, CRep] at h
    subst h
    simpa [tupOf, tupApp] using hc
  | a :: as, vs, h => by
    simp only [tupOf, CRep] at h
    obtain ⟨p, r, rfl, h1, h2⟩ := h
    simp only [tupOf, tupApp, CRep]
    exact ⟨p, r ++ ps, rfl, h1, CRep_tupApp hc as r h2⟩

theorem capSV_sound : ∀ (ct : Ty) (x : Den ct) (caps : SV) (ps : List Value), capSV ct x = some caps → Rep w S true ct x ps → CRep w S hv g true caps ps := by
  intro ct
  induction ct with
  | nil => intro x caps ps h hr; simp [capSV] at h; subst h; simpa [Rep, CRep] using hr
  | pair a r iha ihr =>
    intro x caps ps h hr
    simp only [capSV] at h
    split at h
    · rename_i s hs
      simp only [Option.some.injEq] at h
      subst h
      simp only [Rep] at hr
      obtain ⟨b, o, c, rest, rfl, h1, h2, h3, h4⟩ := hr
      simp only [CRep]
      refine ⟨_, rest, rfl, .inr (.inr ⟨rfl, ?_⟩), ihr _ _ _ hs h4⟩
      simp only [CRep]
      exact ⟨b, o, c, rfl, h1, h2, h3⟩
    · cases h
  | _ => intro x caps ps h; simp [capSV] at h

theorem back_sound (hf : Fit P H) (hI : Inv w S hv F g) (hl : ∀ c r, gl c = some r → g c = some r) {f gf : Nat} (hx : H.extF f = some (.backward gf)) {d : Nat} (hd : gl d = none → g d = none) {args : SV} {vs : List Value} (ha : CRep w S hv g true args vs) {e : Eff} (he : (backE H gl d gf args).run = some e) :
    Res P ((callFunc f vs.toArray).run P w) (Out w S hv F g e) := by
  unfold backE at he
  split at he
  · rename_i a E hE
    simp only [CRep] at ha
    obtain ⟨p, r, rfl, h1, rfl⟩ := ha
    split at he
    · rename_i k hk hag
      unfold fresh at he
      split at he
      · rename_i hnew
        simp only [M.run, Option.some.injEq] at he
        subst he
        have hVR : VR w S hv g a p := (VR_of_V0 hag).2 h1
        obtain ⟨A, m, cap, rfl, _⟩ := lenOf_sound hI hl hVR hk
        obtain ⟨cs, c1, c2, _, _⟩ := VR_cells hag hVR
        have hcs : cs = [.slice A m cap] := by
          rcases c1 with ⟨h, _⟩ | ⟨_, h⟩
          · cases h
          · exact h
        subst hcs
        obtain ⟨b1, b2⟩ := hf.back f gf hx
        rw [b1]
        show Calls P f _ w _
        refine (b2 A m cap w).mono ?_
        rintro e w' ⟨rfl, T, rfl⟩
        refine ⟨_, rfl, ?_⟩
        obtain ⟨S', hv', F', q1, q2⟩ := newBox_out hI (hd hnew) c2 T
        refine ⟨S', hv', F', q1, ?_⟩
        rw [VR_cell rfl]
        simp only [CRep]
        exact ⟨_, rfl, _, _, rfl, (show V0 (CRep _ _ _ _ false (.ptr _ [])) (.ptr _ []) _ from q2), rfl⟩
      · simp [M.run] at he
    · simp [M.run] at he
  · simp [M.run] at he

theorem cells_one {t : Ty} {b : Nat} : ∀ (ys : List (Den t)) (o : Nat), (∀ i e, ys[i]? = some e → ∃ c, c.length = 1 ∧ rd w b (o + i * 1) c ∧ Rep w S false t e c) →
    ∃ cs : List Value, cs.length = ys.length ∧ ∀ i e, ys[i]? = some e → ∃ u, cs[i]? = some u ∧ w.cell? ⟨b, o + i, none⟩ = some u ∧ Rep w S false t e [u]
  | [], o, _ => ⟨[], rfl, fun i e h => by simp at h⟩
  | y :: ys, o, h => by
    obtain ⟨c, h1, h2, h3⟩ := h 0 y rfl
    obtain ⟨cs, k1, k2⟩ := cells_one ys (o + 1) (fun i e he => by
      obtain ⟨c, q1, q2, q3⟩ := h (i + 1) e (by simpa using he)
      exact ⟨c, q1, by rw [show o + 1 + i * 1 = o + (i + 1) * 1 by omega]; exact q2, q3⟩)
    match c, h1 with
    | [u], _ =>
      refine ⟨u :: cs, by simp [k1], fun i e he => ?_⟩
      cases i with
      | zero =>
        simp only [List.getElem?_cons_zero, Option.some.injEq] at he
        subst he
        have := h2 0 u rfl
        exact ⟨u, rfl, by simpa using this, h3⟩
      | succ i =>
        obtain ⟨u', q1, q2, q3⟩ := k2 i e (by simpa using he)
        exact ⟨u', by simpa using q1, by rw [show o + (i + 1) = o + 1 + i by omega]; exact q2, q3⟩

theorem clone_sound (hf : Fit P H) (hI : Inv w S hv F g) (hl : ∀ c r, gl c = some r → g c = some r) {f E : Nat} (hx : H.extF f = some (.clone E)) {d : Nat} (hd : gl d = none → g d = none) {args : SV} {vs : List Value} (ha : CRep w S hv g true args vs) {e : Eff} (he : (cloneE H gl d E args).run = some e) :
    Res P ((callFunc f vs.toArray).run P w) (Out w S hv F g e) := by
  unfold cloneE at he
  split at he
  · rename_i c sz lo hi
    simp only [CRep] at ha
    obtain ⟨p, r, rfl, h1, rfl⟩ := ha
    have h1 : CRep w S hv g false (.sub c sz lo hi) [p] := by
      rcases h1 with h | ⟨h, _⟩ | ⟨_, h⟩
      · cases h
      · cases h
      · simpa only [CRep] using h
    simp only [CRep] at h1
    obtain ⟨_, p', hp', hsub⟩ := h1
    simp only [List.cons.injEq, and_true] at hp'
    subst hp'
    split at he
    · rename_i t n xs u hc hu
      split at he
      · rename_i hok
        simp only [Bool.and_eq_true, decide_eq_true_eq, beq_iff_eq] at hok
        obtain ⟨rfl, hsz, rfl⟩ := hok
        unfold fresh at he
        split at he
        · rename_i hnew
          simp only [M.run] at he
          by_cases hlim' : ((xs.take hi).drop lo).length ≤ lim
          · have hlim : decide (((xs.take hi).drop lo).length ≤ lim) = true := decide_eq_true hlim'
            rw [hlim, cond_true] at he
            simp only [Option.some.injEq] at he
            subst he
            have hdn := hd hnew
            have hg := hl _ _ hc
            have hrow := hI.rep c _ hg
            simp only [GRep, hsz, ERep] at hrow
            obtain ⟨b1, b2, b3⟩ := hf.clone f E hx
            rw [b1]
            show Calls P f _ w _
            rcases hsub with ⟨e1, rfl, rfl, rfl⟩ | ⟨b, o, m, cap, o', e1, rfl, l1, l2, l3, l4, l5, l6⟩
            · rcases hrow with ⟨rfl, rfl, _⟩ | ⟨_, b, o, cap, arr, T, G, k1, _⟩
              · refine (b2 0 0 w).mono ?_
                rintro e w' ⟨rfl, rfl⟩
                refine ⟨_, rfl, ?_⟩
                have hs := re_step (d := d) (r := .row t false true []) (v := .slice none 0 0) (gs := []) (fs := []) (Fd := fun _ => False) (Q := fun _ => False) hI hl (fun h => absurd hdn h) (fun n h => absurd hdn h) (.inl rfl) (by simp) (by simp) (by simp) (by simp) (by simp) (Nat.le_refl _) (fun _ _ _ => rfl) (fun b h => h.elim) (fun b h => h.elim) (fun _ => by
                  simp only [GRep, if_true]
                  exact .inl ⟨rfl, rfl, rfl⟩)
                refine Out.mk (updReg_re g gl d _ [] []) hs ?_
                rw [VR_cell rfl]
                simp only [CRep, if_true]
                exact ⟨by simp [reLook], rfl, trivial⟩
              · rw [e1] at k1; cases k1
            · rcases hrow with ⟨rfl, rfl, k1⟩ | ⟨rfl, b', oo, cap', arr, T, G, k1, k2, k3, k4, k5, k6, k7, k8, k9⟩
              · rw [e1] at k1; cases k1
              · rw [e1] at k1
                simp only [Value.slice.injEq, Option.some.injEq, Addr.mk.injEq, and_true] at k1
                obtain ⟨⟨rfl, rfl⟩, rfl, rfl⟩ := k1
                have hylen : ((xs.take hi).drop lo).length = hi - lo := by rw [List.length_drop, List.length_take]; omega
                obtain ⟨cs, c1, c2⟩ := cells_one (S := S) (b := b) ((xs.take hi).drop lo) o' (fun i e he => by
                  have hi' := (List.getElem?_eq_some_iff.1 he).1
                  rw [hylen] at hi'
                  rw [List.getElem?_drop, List.getElem?_take, if_pos (by omega)] at he
                  obtain ⟨cc, q1, q2, q3⟩ := k9 _ _ he
                  refine ⟨cc, q1, ?_, q3⟩
                  rw [l5 (by omega), show o + lo * 1 + i * 1 = o + (lo + i) * 1 by omega]
                  exact q2)
                have hone : ∀ u ∈ cs, u.oneCell' = true := fun u hu => by
                  obtain ⟨i, hi', rfl⟩ := List.getElem_of_mem hu
                  have hlt : i < ((xs.take hi).drop lo).length := by omega
                  obtain ⟨u', q1, _, q3⟩ := c2 i _ (List.getElem?_eq_getElem hlt)
                  rw [List.getElem?_eq_getElem hi'] at q1
                  cases q1
                  exact Rep_one _ _ _ q3 _ (by simp)
                have hcell : ∀ j u, cs[j]? = some u → w.cell? ⟨b, o' + j, none⟩ = some u := fun j u hj => by
                  have hlt : j < ((xs.take hi).drop lo).length := by have := (List.getElem?_eq_some_iff.1 hj).1; omega
                  obtain ⟨u', q1, q2, _⟩ := c2 j _ (List.getElem?_eq_getElem hlt)
                  rw [hj] at q1
                  cases q1
                  exact q2
                refine (b3 b o' (hi - lo) (cap - lo) cs w (by omega) (by rw [← hylen]; simpa using hlim) hcell hone).mono ?_
                rintro e w' ⟨v', rfl, ⟨o1, o2⟩, o3, o4, o5⟩
                refine ⟨_, rfl, ?_⟩
                rcases o2 with ⟨q, _⟩ | ⟨gg, cap2, cur, rfl, g1, g2, g3, g4, g5, g6⟩
                · exact absurd q o3
                · have hlt : gg < w'.heap.size := (Array.getElem?_eq_some_iff.1 g2).1
                  have hs := re_step (d := d) (r := .row t false false ((xs.take hi).drop lo)) (v := .slice (some ⟨gg, 0, none⟩) (hi - lo) cap2) (gs := []) (fs := []) (Fd := fun b => b = gg) (Q := fun _ => False) (w' := w') hI hl (fun h => absurd hdn h) (fun n h => absurd hdn h) (.inl rfl) (by simp) (by simp) (by simp) (by simp) (by simp) o4.size (fun b hb _ => o4.block b hb) (fun b hb => by subst hb; exact ⟨.inr g1, hlt⟩) (fun b h => h.elim) (fun hext => by
                    simp only [GRep, if_true, hsz]
                    refine .inr ⟨rfl, gg, 0, cap2, cur, E, fun _ _ => False, (by rw [hylen]), (by rw [hylen]; exact g3), (by rw [hylen]; have q9 : maxLen ≤ big := (by decide); omega), g2, (by omega), rfl, fun i b h => h.elim, fun i j b h => h.elim, fun i e he => ?_⟩
                    obtain ⟨u, q1, _, q3⟩ := c2 i e he
                    refine ⟨[u], rfl, ?_, ?_⟩
                    · intro j u' hj
                      have hj0 : j = 0 := by have := (List.getElem?_eq_some_iff.1 hj).1; simp at this; omega
                      subst hj0
                      simp only [List.getElem?_cons_zero, Option.some.injEq] at hj
                      subst hj
                      have hi' : i < cs.length := (List.getElem?_eq_some_iff.1 q1).1
                      rw [← g6, List.getElem?_take, if_pos (by omega)] at q1
                      simp only [World.cell?, g2]
                      simpa using q1
                    · show Rep w' _ false t e [u]
                      exact Rep_mono hext.keep (fun b hb => .inl hb) _ _ _ _ q3) ⟨o4.os, o4.output, o4.tape, o5⟩
                  refine Out.mk (updReg_re g gl d _ [] []) hs ?_
                  rw [VR_cell rfl]
                  simp only [CRep, if_true]
                  exact ⟨by simp [reLook], rfl, trivial⟩
          · rw [decide_eq_false hlim', cond_false] at he
            cases he
        · simp [M.run] at he
      · simp [M.run] at he
    · simp [M.run] at he
  · simp [M.run] at he

theorem op_sound (hf : Fit P H) (hI : Inv w S hv F g) (hl : ∀ c r, gl c = some r → g c = some r) (o : Oper) (ρ : Operand → Value) (h : FnH) {p : Fns H} (hp : ∀ key x y, p.call key x = some y → CallOk P H key x y) {d : Nat} (hd : gl d = none → g d = none) {args : List SV}
    (ha : All2 (fun a v => VR w S hv g a v) args (o.op.operands.toList.map ρ)) {e : Eff} (he : (eff1 H h p o.op o.type d gl args).run = some e) (hup : ∀ c r, (c, r) ∈ e.upd → gl c = none → g c = none) :
    Res P ((execOp ρ o).run P w) (Out w S hv F g e) := by
  have hfail : ∀ {e : Eff}, (M.fail : M Eff).run = some e → False := fun h => by simp [M.run] at h
  by_cases hc : ∃ c, o.op = .call c
  · obtain ⟨c, ho⟩ := hc
    obtain ⟨callee, xs, ts⟩ := c
    rw [ho] at ha he
    simp only [eff1] at he
    cases callee with
    | builtin b =>
      simp only at he
      refine builtin_sound hf hI hl o ρ b xs ts ho hd ?_ he
      simpa [Op.operands, Call.operands] using ha
    | invoke r m => exact (hfail he).elim
    | value f =>
      simp only at he
      have ha' : All2 (fun a v => VR w S hv g a v) args (ρ f :: xs.toList.map ρ) := by simpa [Op.operands, Call.operands] using ha
      cases ha' with
      | cons h1 h2 =>
        rename_i a as
        have hrun : ∀ (k : Nat) (ps : List Value), ρ f = .func (.func k) #[] ps.toArray → (execOp ρ o).run P w = (callFunc k (xs.toList.map ρ ++ ps).toArray).run P w := by
          intro k ps hr
          have hxs : xs.map ρ = (xs.toList.map ρ).toArray := by apply Array.ext'; simp
          simp [execOp, ho, resolve, invoke, Deferred.ofValue, hr, hxs]
        have hargs := CRep_tupOf h2
        split at he
        · rename_i k caps as' heq
          cases heq
          rw [VR_cell rfl] at h1
          simp only [CRep] at h1
          obtain ⟨ps, hps, hcap⟩ := h1
          simp only [List.cons.injEq, and_true] at hps
          rw [hrun k ps hps]
          have hall := CRep_tupApp hcap _ _ hargs
          split at he
          · rename_i gf hef
            exact back_sound hf hI hl hef hd hall he
          · rename_i E hef
            exact clone_sound hf hI hl hef hd hall he
          · rename_i hef
            exact ext_sound hf hI hef hall he
          · exact call_sound hf hI hl hp hall he hup
        · rename_i k ct x as' heq
          cases heq
          rw [VR_v rfl] at h1
          simp only [Rep] at h1
          obtain ⟨ps, hps, hcap⟩ := h1
          simp only [List.cons.injEq, and_true] at hps
          rw [hrun k ps hps]
          split at he
          · rename_i caps hcaps
            exact call_sound hf hI hl hp (CRep_tupApp (capSV_sound _ _ _ _ hcaps hcap) _ _ hargs) he hup
          · exact (hfail he).elim
        · exact (hfail he).elim
  · exact eff1_sound hf hI hl o ρ h p hd ha he fun c hcc => hc ⟨c, hcc⟩

/-- the marks that ranges over functions leave among a frame's deferred calls: their blocks are new since B, and no region's -/
def Marks (w : World) (F : Nat → Nat → Prop) (B : Nat) (ds : List Deferred) : Prop :=
  B ≤ w.heap.size ∧ ds.Pairwise (fun d e => d.target ≠ e.target) ∧ ∀ d ∈ ds, ∃ D, d.target = .collected D ∧ B ≤ D ∧ w.heap[D]? = some (.deferred (some [])) ∧ ∀ c, ¬ F c D
theorem Marks.nil {B : Nat} (h : B ≤ w.heap.size) : Marks w F B [] := ⟨h, List.Pairwise.nil, fun _ h => by cases h⟩
theorem Marks.step {B : Nat} {ds : List Deferred} (h : Marks w F B ds) (hs : Step' w S hv F g w' S' hv' F' g') : Marks w' F' B ds :=
  ⟨Nat.le_trans h.1 hs.sz, h.2.1, fun d hd => by
    obtain ⟨D, h1, h2, h3, h4⟩ := h.2.2 d hd
    have hlt : D < w.heap.size := (Array.getElem?_eq_some_iff.1 h3).1
    refine ⟨D, h1, h2, by rw [hs.fr D hlt h4]; exact h3, fun c hc => ?_⟩
    rcases hs.bF c D hc with ⟨c', hc'⟩ | hge
    · exact h4 c' hc'
    · omega⟩

theorem Marks.sub {B : Nat} {ds : List Deferred} (h : Marks w F B ds) (hF : ∀ c b, F' c b → ∃ c', F c' b) : Marks w F' B ds :=
  ⟨h.1, h.2.1, fun d hd => by
    obtain ⟨D, h1, h2, h3, h4⟩ := h.2.2 d hd
    exact ⟨D, h1, h2, h3, fun c hc => by obtain ⟨c', hc'⟩ := hF c D hc; exact h4 c' hc'⟩⟩

/-- a frame in memory -/
structure Rel (n B : Nat) (s : St) (a : Act) (w : World) (S : Nat → Prop) (hv : Nat → Value) (F : Nat → Nat → Prop) : Prop where
  inv : Inv w S hv F s.reg
  sl : ∀ i, VR w S hv s.reg (s.slot i) (a.tmps.getD i undef)
  df : Marks w F B a.defers
  sz : n ≤ a.tmps.size

/-- where a step leads; W: the slots that it may write -/
def Leads (n B : Nat) (W : List Nat) (a : Act) (w : World) (S : Nat → Prop) (hv : Nat → Value) (F : Nat → Nat → Prop) (g : Look) (s' : St) (a' : Act) (w' : World) : Prop :=
  ∃ S' hv' F', Rel n B s' a' w' S' hv' F' ∧ Step' w S hv F g w' S' hv' F' s'.reg ∧ ∀ i, i ∉ W → a'.tmps.getD i undef = a.tmps.getD i undef

theorem Leads.trans {n B : Nat} {W W' : List Nat} {a : Act} {s1 s2 : St} {a1 a2 : Act} {w1 w2 : World} (h : Leads n B W a w S hv F g s1 a1 w1) (h' : ∀ S1 hv1 F1, Rel n B s1 a1 w1 S1 hv1 F1 → Leads n B W' a1 w1 S1 hv1 F1 s1.reg s2 a2 w2) : Leads n B (W ++ W') a w S hv F g s2 a2 w2 := by
  obtain ⟨S1, hv1, F1, h1, h2, h3⟩ := h
  obtain ⟨S2, hv2, F2, h4, h5, h6⟩ := h' S1 hv1 F1 h1
  refine ⟨S2, hv2, F2, h4, h2.trans h5, fun i hi => ?_⟩
  rw [h6 i (fun h => hi (List.mem_append_right _ h)), h3 i (fun h => hi (List.mem_append_left _ h))]

theorem Leads.mono {n B : Nat} {W W' : List Nat} {a : Act} {s1 : St} {a1 : Act} {w1 : World} (h : Leads n B W a w S hv F g s1 a1 w1) (hW : ∀ i ∈ W, i ∈ W') : Leads n B W' a w S hv F g s1 a1 w1 := by
  obtain ⟨S1, hv1, F1, h1, h2, h3⟩ := h
  exact ⟨S1, hv1, F1, h1, h2, fun i hi => h3 i (fun h => hi (hW i h))⟩

theorem Leads.refl {n B : Nat} {W : List Nat} {a : Act} {s : St} (h : Rel n B s a w S hv F) : Leads n B W a w S hv F s.reg s a w := ⟨S, hv, F, h, Step'.refl h.inv, fun _ _ => rfl⟩

theorem opnd_VR {n B : Nat} {s : St} {a : Act} (hr : Rel n B s a w S hv F) (x : Operand) : VR w S hv s.reg (opnd s x) (a.eval x) := by
  cases x with
  | tmp t => exact hr.sl t
  | func f =>
    simp only [opnd, Act.eval]
    rw [VR_cell rfl]
    simp only [CRep]
    exact ⟨[], rfl, rfl⟩
  | global i => trivial
  | const v =>
    simp only [opnd, Act.eval]
    cases v with
    | int k m =>
      by_cases h : k.min ≤ m ∧ m ≤ k.max
      · simp only [h, and_self, decide_true]
        rw [VR_int]
        exact ⟨rfl, h⟩
      · simp only [h, decide_false]
        trivial
    | bool b => exact VR_bool.2 rfl
    | slice x y z =>
      cases x with
      | some x => trivial
      | none =>
        cases y with
        | succ y => trivial
        | zero =>
          cases z with
          | succ z => trivial
          | zero => exact (VR_cell rfl).2 rfl
    | _ => trivial

theorem getD_put {a : Act} {d : Option Nat} {v : Value} {i : Nat} : (a.put d v).tmps.getD i undef = if d = some i ∧ i < a.tmps.size then v else a.tmps.getD i undef := by
  cases d with
  | none => simp [Act.put]
  | some k =>
    simp only [Act.put]
    by_cases h : k = i
    · subst h
      by_cases h2 : k < a.tmps.size
      · simp [h2]
      · simp [h2]
    · simp [h]

theorem put_slot {s : St} {d : Option Nat} {x : SV} {i : Nat} : (s.put d x).slot i = if d = some i then x else s.slot i := by
  cases d with
  | none => simp [St.put]
  | some k =>
    simp only [St.put]
    cases h : (i == k)
    · have : ¬ k = i := by intro hh; subst hh; simp at h
      simp [this]
    · have : i = k := by simpa using h
      simp [this]

theorem put_reg {s : St} {d : Option Nat} {x : SV} : (s.put d x).reg = s.reg := by cases d <;> rfl

/-- what an operation comes to, in the frame -/
theorem Rel.put {n B : Nat} {s : St} {a : Act} (hr : Rel n B s a w S hv F) {upd : List (Nat × Rg)} {S' : Nat → Prop} {hv' : Nat → Value} {F' : Nat → Nat → Prop} (hs : Step' w S hv F s.reg w' S' hv' F' (updReg s.reg upd)) {d : Option Nat} {x : SV} {v : Value}
    (hx : VR w' S' hv' (updReg s.reg upd) x v) (hd : ∀ k, d = some k → k < n ∨ x.isDead = true ∧ (x = .unit ∨ x = .dead)) : Rel n B ({ s with reg := updReg s.reg upd }.put d x) (a.put d v) w' S' hv' F' := by
  refine ⟨by rw [put_reg]; exact hs.inv, fun i => ?_, ?_, ?_⟩
  · rw [put_slot, put_reg, getD_put]
    by_cases h : d = some i
    · simp only [h, true_and, if_true]
      by_cases h2 : i < a.tmps.size
      · simp only [h2, if_true]; exact hx
      · simp only [h2, if_false]
        rcases hd i h with h3 | ⟨_, h3 | h3⟩
        · exact absurd (Nat.lt_of_lt_of_le h3 hr.sz) h2
        · rw [h3]
          show _ = _
          simp [h2, undef]
        · rw [h3]; trivial
    · simp only [h, false_and, if_false]
      exact VR_mono hs.ext _ _ (hr.sl i)
  · cases d <;> exact hr.df.step hs
  · have := hr.sz
    cases d <;> simpa [Act.put] using this

theorem put_keep {a : Act} {d : Option Nat} {v : Value} {W : List Nat} (hW : ∀ k, d = some k → k ∈ W) : ∀ i, i ∉ W → (a.put d v).tmps.getD i undef = a.tmps.getD i undef := by
  intro i hi
  rw [getD_put, if_neg]
  rintro ⟨h, _⟩
  exact hi (hW i h)
end
end Go.Rf

namespace Go.Rf

section
variable {P : Program} {H : Hints}

theorem put_same {s : St} {q : Nat} {x : SV} (h : s.slot q = x) : s.put (some q) x = s := by
  obtain ⟨sl, rg⟩ := s
  simp only [St.put, St.mk.injEq, and_true]
  funext i
  cases hq : (i == q)
  · rfl
  · have : i = q := by simpa using hq
    subst this
    simpa using h.symm

theorem reach_sub (g : Look) : ∀ (n : Nat) (l : List Nat) (c : Nat), c ∈ l → c ∈ reach g n l
  | 0, l, c, h => h
  | n + 1, l, c, h => reach_sub g n _ c (List.mem_append_left _ h)

theorem reach_congr (g g2 : Look) : ∀ (n : Nat) (l : List Nat), (∀ c ∈ reach g n l, g2 c = g c) → reach g2 n l = reach g n l
  | 0, l, _ => rfl
  | n + 1, l, h => by
    simp only [reach] at h ⊢
    refine Eq.trans (congrArg (fun z => reach g2 n (l ++ z)) ?_) (reach_congr g g2 n _ h)
    apply congrArg List.flatten
    apply List.map_congr_left
    intro c hc
    rw [h c (reach_sub g n _ c (List.mem_append_left _ hc))]

theorem updOk_mem {s : St} {o : Oper} {T : List Nat} : ∀ (l : List (Nat × Rg)), updOk s o T l = true → ∀ c r, (c, r) ∈ l → c ∈ T ∨ (newOf o.dst c = true ∧ s.reg c = none)
  | [], _, c, r, h => by cases h
  | (k, q) :: l, hu, c, r, h => by
    simp only [updOk, Bool.and_eq_true, Bool.or_eq_true] at hu
    rcases List.mem_cons.1 h with h | h
    · cases h
      rcases hu.1 with h1 | ⟨h1, h2⟩
      · exact .inl (hasN_iff.1 h1)
      · refine .inr ⟨h1, ?_⟩
        split at h2
        · assumption
        · cases h2
    · exact updOk_mem l hu.2 c r h

theorem updOk_congr {s s2 : St} {o : Oper} {T : List Nat} (h : ∀ c, newOf o.dst c = true → s2.reg c = s.reg c) : ∀ (l : List (Nat × Rg)), updOk s2 o T l = updOk s o T l
  | [] => rfl
  | (k, q) :: l => by
    simp only [updOk, updOk_congr h l]
    cases hn : newOf o.dst k
    · simp
    · rw [h k hn]

theorem opnd_const (s s2 : St) (v : Value) : opnd s2 (.const v) = opnd s (.const v) := by
  cases v <;> try rfl
  rename_i x y z
  cases x <;> cases y <;> cases z <;> rfl

theorem stepOp_spec {h : FnH} {p : Fns H} {o : Oper} {s s1 : St} {t : Tr} (hs : (stepOp H h p o s).run = some (s1, t)) :
    ∃ upd val, s1 = ({ s with reg := updReg s.reg upd } : St).put o.dst val ∧ t.changed = upd.map (·.1) ∧
      ∀ s2 : St, (∀ d, Operand.tmp d ∈ o.op.operands.toList → s2.slot d = s.slot d) → (∀ c, (c ∈ t.touched ∨ newOf o.dst c = true) → s2.reg c = s.reg c) →
        (stepOp H h p o s2).run = some (({ s2 with reg := updReg s2.reg upd } : St).put o.dst val, t) := by
  unfold stepOp at hs
  simp only [M.run_bind] at hs
  generalize hargs : o.op.operands.toList.map (opnd s) = args at hs
  generalize hT : touchOf o.op s args = T at hs
  obtain ⟨e, he, hs⟩ := Option.bind_eq_some_iff.1 hs
  · split at hs
    · rename_i hchk
      simp only [M.run, Option.some.injEq, Prod.mk.injEq] at hs
      obtain ⟨h1, h2⟩ := hs
      subst h1 h2
      refine ⟨e.upd, e.val, rfl, rfl, fun s2 hsl hrg => ?_⟩
      simp only at hrg
      have hargs2 : o.op.operands.toList.map (opnd s2) = args := by
        rw [← hargs]
        apply List.map_congr_left
        intro x hx
        cases x with
        | tmp d => exact hsl d hx
        | const v => exact opnd_const s s2 v
        | global i => rfl
        | func f => rfl
      have hT2 : touchOf o.op s2 args = T := by
        have gen : ∀ args, touches s args = T → touches s2 args = T := fun args hT => by
          rw [← hT]
          unfold touches
          exact reach_congr _ _ _ _ fun c hc => hrg c (.inl (by rw [← hT]; exact hc))
        revert hT
        unfold touchOf
        split
        · exact id
        · exact id
        · exact id
        · exact id
        · rename_i c p _
          intro hT
          have hcc : s2.reg c = s.reg c := by
            refine hrg c (.inl ?_)
            rw [← hT]
            split
            · simp
            · exact reach_sub _ _ _ _ (by simp [SV.refs])
          rw [hcc]
          split at hT
          · exact hT
          · exact gen _ hT
        · exact gen _
      have hlook : lookAt s2 o T = lookAt s o T := by
        funext c
        unfold lookAt
        cases hb : (hasN T c || newOf o.dst c)
        · rfl
        · simp only [cond_true]
          refine hrg c ?_
          rcases Bool.or_eq_true_iff.1 hb with h | h
          · exact .inl (hasN_iff.1 h)
          · exact .inr h
      unfold stepOp
      simp only [M.run_bind, hargs2, hT2, hlook, he, Option.bind_some]
      rw [updOk_congr (fun c hc => hrg c (.inr hc)), hchk]
      rfl
    · simp [M.run] at hs

variable {ro : Option Nat} {B : Nat} {w w' : World} {S S' : Nat → Prop} {hv hv' : Nat → Value} {F F' : Nat → Nat → Prop} {g g' gl : Look}

theorem All2_same {α β : Type} {R : α → β → Prop} {γ : Type} {f : γ → α} {k : γ → β} : ∀ (l : List γ), (∀ x ∈ l, R (f x) (k x)) → All2 R (l.map f) (l.map k) := fun l h => All2.map l h

theorem stepOp_sound (hf : Fit P H) {h : FnH} {p : Fns H} (hp : ∀ key x y, p.call key x = some y → CallOk P H key x y) {o : Oper} {s s1 : St} {t : Tr} {a : Act} (hr : Rel h.f.ntmps B s a w S hv F) (hs : (stepOp H h p o s).run = some (s1, t))
    {W : List Nat} (hW : ∀ k, o.dst = some k → k ∈ W) {K : Act → World → Prop} {Q : Exit → Act → World → Prop} (hK : ∀ a' w', Leads h.f.ntmps B W a w S hv F s.reg s1 a' w' → K a' w') : o.wpIn (Fw ro) 0 P a w K Q := by
  unfold stepOp at hs
  simp only [M.run_bind] at hs
  generalize hargs : o.op.operands.toList.map (opnd s) = args at hs
  generalize hT : touchOf o.op s args = T at hs
  obtain ⟨e, he, hs⟩ := Option.bind_eq_some_iff.1 hs
  · split at hs
    · rename_i hchk
      simp only [M.run, Option.some.injEq, Prod.mk.injEq] at hs
      obtain ⟨h1, h2⟩ := hs
      subst h1 h2
      have hchk := Bool.and_eq_true_iff.1 hchk
      have hl : ∀ c r, lookAt s o T c = some r → s.reg c = some r := by
        intro c r hc
        unfold lookAt at hc
        cases hb : (hasN T c || newOf o.dst c)
        · simp [hb] at hc
        · simpa [hb] using hc
      have hshow : ∀ c, (c ∈ T ∨ newOf o.dst c = true) → lookAt s o T c = s.reg c := by
        intro c hc
        unfold lookAt
        have : (hasN T c || newOf o.dst c) = true := by
          rcases hc with hc | hc
          · simp [hasN_iff.2 hc]
          · simp [hc]
        rw [this]
        rfl
      have hd : ∀ d, d = (match o.dst with
        | some d => d
        | none => 4095) → lookAt s o T d = none → s.reg d = none := by
        intro d hd hn
        rw [← hshow d ?_]
        · exact hn
        · refine .inr ?_
          subst hd
          cases hdst : o.dst with
          | none => rfl
          | some k =>
            rw [hdst] at hchk
            simp only [Bool.and_eq_true, decide_eq_true_eq] at hchk
            simp only [newOf, beq_iff_eq]
            exact Nat.mod_eq_of_lt hchk.2.2
      have hup : ∀ c r, (c, r) ∈ e.upd → lookAt s o T c = none → s.reg c = none := by
        intro c r hc hn
        rcases updOk_mem _ hchk.1 c r hc with h1 | ⟨_, h1⟩
        · rw [← hshow c (.inl h1)]; exact hn
        · exact h1
      have ha : All2 (fun a v => VR w S hv s.reg a v) args (o.op.operands.toList.map a.eval) := by
        rw [← hargs]
        exact All2.map _ fun x _ => opnd_VR hr x
      have hres := op_sound hf hr.inv hl o a.eval h hp (hd _ rfl) ha he hup
      have hnd : ∀ c, o.op ≠ .defer c := by
        intro c hc
        rw [hc] at he
        simp [eff1, M.run] at he
      refine hres.wpIn hnd fun v w' hout => hK _ _ ?_
      obtain ⟨S', hv', F', h3, h4⟩ := hout
      refine ⟨S', hv', F', hr.put h3 h4 fun k hk => ?_, by rw [put_reg]; exact h3, put_keep hW⟩
      rw [hk] at hchk
      simp only [Bool.and_eq_true, decide_eq_true_eq] at hchk
      exact .inl hchk.2.1
    · simp [M.run] at hs

theorem yielded_bool {ops : Array Oper} {j q : Nat} {a : Act} {b : Bool} (hq : dstOf ops j = some q) (h : a.tmps.getD q undef = .bool b) : yielded ops a.tmps j = some b := by
  unfold dstOf at hq
  unfold yielded
  cases ho : ops[j]? with
  | none => simp [ho] at hq
  | some o =>
    simp only [ho] at hq
    simp only [Option.bind_some, hq]
    by_cases hlt : q < a.tmps.size
    · have : a.tmps[q]? = some (.bool b) := by
        rw [Array.getD_eq_getD_getElem?] at h
        simp only [hlt, Array.getElem?_eq_getElem, Option.getD_some] at h ⊢
        rw [h]
      rw [this]
    · rw [Array.getD_eq_getD_getElem?, Array.getElem?_eq_none (by omega)] at h
      simp [undef] at h

theorem yielded_unit {ops : Array Oper} {j q : Nat} {a : Act} (hq : dstOf ops j = some q) (h : a.tmps.getD q undef = .tuple #[]) : yielded ops a.tmps j = none := by
  unfold dstOf at hq
  unfold yielded
  cases ho : ops[j]? with
  | none => simp [ho] at hq
  | some o =>
    simp only [ho] at hq
    simp only [Option.bind_some, hq]
    by_cases hlt : q < a.tmps.size
    · have : a.tmps[q]? = some (.tuple #[]) := by
        rw [Array.getD_eq_getD_getElem?] at h
        simp only [hlt, Array.getElem?_eq_getElem, Option.getD_some] at h ⊢
        rw [h]
      rw [this]
    · rw [Array.getElem?_eq_none (by omega)]

/-- an operation's turn -/
def Turn (P : Program) (ro : Option Nat) (ops : Array Oper) (o : Oper) (Q : Exit → Act → World → Prop) (K : Act → World → Prop) (a : Act) (w : World) : Prop :=
  if Region.wanted o (yielded ops a.tmps) then o.wpIn (Fw ro) 0 P a w K Q else (∀ f, o.about P w a.eval = some f → (Fw ro).fn f) ∧ K (a.put o.dst undef) w

theorem skip_leads {n B : Nat} {s : St} {a : Act} (hr : Rel n B s a w S hv F) (d : Option Nat) {W : List Nat} (hW : ∀ k, d = some k → k ∈ W) : Leads n B W a w S hv F s.reg (s.put d .unit) (a.put d undef) w := by
  refine ⟨S, hv, F, ?_, by rw [put_reg]; exact Step'.refl hr.inv, put_keep hW⟩
  exact hr.put (upd := []) (Step'.refl hr.inv) (x := .unit) (v := undef) rfl fun k _ => .inr ⟨rfl, .inl rfl⟩

theorem runOp_sound (hf : Fit P H) {h : FnH} {p : Fns H} (hp : ∀ key x y, p.call key x = some y → CallOk P H key x y) {ops : Array Oper} {o : Oper} {s s1 : St} {t : Tr} {a : Act} (hr : Rel h.f.ntmps B s a w S hv F) (hs : (runOp H h p ops o s).run = some (s1, t))
    {W : List Nat} (hW : ∀ k, o.dst = some k → k ∈ W) {K : Act → World → Prop} {Q : Exit → Act → World → Prop} (hK : ∀ a' w', Leads h.f.ntmps B W a w S hv F s.reg s1 a' w' → K a' w') : Turn P ro ops o Q K a w := by
  unfold Turn
  unfold runOp at hs
  split at hs
  · rename_i hg
    simp only [Region.wanted, hg, if_true]
    exact stepOp_sound hf hp hr hs hW hK
  · rename_i j want hg
    split at hs
    · rename_i q hq
      split at hs
      · rename_i b hb
        have hsame := put_same hb
        have hvb : a.tmps.getD q undef = .bool b := by
          have := hr.sl q
          rw [hb] at this
          exact VR_bool.1 this
        have hy := yielded_bool hq hvb
        have hgo : ((match b == want with
          | true => stepOp H h p o s
          | false => .ret (s.put o.dst .unit, ⟨[], []⟩)) : M (St × Tr)).run = some (s1, t) := by
          simp only [M.run] at hs
          cases b
          · simp only [cond_false] at hs
            rw [hsame] at hs
            exact hs
          · simp only [cond_true] at hs
            rw [hsame] at hs
            exact hs
        simp only [Region.wanted, hg, hy]
        split at hgo
        · rename_i hbw
          have : b = want := by simpa using hbw
          subst this
          simp only [BEq.rfl, if_true]
          exact stepOp_sound hf hp hr hgo hW hK
        · rename_i hbw
          have : ¬ b = want := by simpa using hbw
          have h2 : (some b == some want) = false := by simpa using this
          simp only [h2]
          simp only [M.run, Option.some.injEq, Prod.mk.injEq] at hgo
          obtain ⟨rfl, rfl⟩ := hgo
          exact ⟨fun _ _ => trivial, hK _ _ (skip_leads hr o.dst hW)⟩
      · rename_i hb
        have hvb : a.tmps.getD q undef = .tuple #[] := by
          have := hr.sl q
          rw [hb] at this
          exact this
        simp only [Region.wanted, hg, yielded_unit hq hvb]
        simp only [M.run, Option.some.injEq, Prod.mk.injEq] at hs
        obtain ⟨rfl, rfl⟩ := hs
        exact ⟨fun _ _ => trivial, hK _ _ (skip_leads hr o.dst hW)⟩
      · simp [M.run] at hs
    · simp [M.run] at hs

theorem runOps_sound (hf : Fit P H) {h : FnH} {p : Fns H} (hp : ∀ key x y, p.call key x = some y → CallOk P H key x y) {ops : Array Oper} {Q : Exit → Act → World → Prop} {W : List Nat} : ∀ (l : List Oper) (i : Nat) {s s1 : St} {ts : List Tr} {a : Act} {w : World} {S : Nat → Prop} {hv : Nat → Value} {F : Nat → Nat → Prop}, Rel h.f.ntmps B s a w S hv F → (runOps H h p ops l s).run = some (s1, ts) → (∀ o ∈ l, ∀ k, o.dst = some k → k ∈ W) → (∀ k, k < l.length → ops[i + k]? = l[k]?) →
    (∀ a' w', Leads h.f.ntmps B W a w S hv F s.reg s1 a' w' → Q .normal a' w') → wpOpsIn (Fw ro) 0 P ops Q (List.range' i l.length) a w
  | [], i, s, s1, ts, a, w, S, hv, F, hr, hs, hW, hops, hK => by
    simp only [runOps, M.run, Option.some.injEq, Prod.mk.injEq] at hs
    obtain ⟨rfl, rfl⟩ := hs
    exact hK _ _ (Leads.refl hr)
  | o :: l, i, s, s1, ts, a, w, S, hv, F, hr, hs, hW, hops, hK => by
    simp only [runOps, M.run_bind] at hs
    cases h1 : (runOp H h p ops o s).run with
    | none => simp [h1] at hs
    | some r1 =>
      obtain ⟨s2, t⟩ := r1
      simp only [h1, Option.bind_some, M.run_bind] at hs
      cases h2 : (runOps H h p ops l s2).run with
      | none => simp [h2] at hs
      | some r2 =>
        obtain ⟨s3, ts'⟩ := r2
        simp only [h2, Option.bind_some, M.run, Option.some.injEq, Prod.mk.injEq] at hs
        obtain ⟨rfl, rfl⟩ := hs
        have hop : ops[i]? = some o := by simpa using hops 0 (by simp)
        show wpOpsIn (Fw ro) 0 P ops Q (i :: List.range' (i + 1) l.length) a w
        rw [wpOpsIn_cons]
        unfold wpOpIn
        rw [hop]
        show Turn P ro ops o Q (wpOpsIn (Fw ro) 0 P ops Q (List.range' (i + 1) l.length)) a w
        refine runOp_sound hf hp hr h1 (hW o (by simp)) fun a' w' hl => ?_
        obtain ⟨S', hv', F', h3, h4, h7⟩ := hl
        refine runOps_sound hf hp l (i + 1) h3 h2 (fun u hu => hW u (List.mem_cons_of_mem _ hu)) (fun k hk => by
          have := hops (k + 1) (by simpa using hk)
          rw [show i + 1 + k = i + (k + 1) by omega, this]
          rfl) fun a2 w2 hl2 => hK _ _ ?_
        obtain ⟨S2, hv2, F2, h5, h6, h8⟩ := hl2
        exact ⟨S2, hv2, F2, h5, h4.trans h6, fun i hi => by rw [h8 i hi, h7 i hi]⟩
end
end Go.Rf

namespace Go.Rf

/-! ### what stands before what -/
theorem before_inner {acc : Array Nat} : ∀ (es : List Edge) (s0 i : Nat), (es.foldl (fun s e => if Region.binds .any e then s ||| 2 ^ e.on ||| acc.getD e.on 0 else s) s0).testBit i = true →
    s0.testBit i = true ∨ ∃ e ∈ es, Region.binds .any e = true ∧ (i = e.on ∨ (acc.getD e.on 0).testBit i = true)
  | [], s0, i, h => .inl h
  | e :: es, s0, i, h => by
    simp only [List.foldl_cons] at h
    rcases before_inner es _ i h with h | ⟨e', h1, h2⟩
    · split at h
      · rename_i hb
        rw [Nat.testBit_or, Nat.testBit_or] at h
        simp only [Bool.or_eq_true] at h
        rcases h with (h | h) | h
        · exact .inl h
        · refine .inr ⟨e, by simp, hb, .inl ?_⟩
          rw [Nat.testBit_two_pow] at h
          simpa using (of_decide_eq_true h).symm
        · exact .inr ⟨e, by simp, hb, .inr h⟩
      · exact .inl h
    · exact .inr ⟨e', List.mem_cons_of_mem _ h1, h2⟩

def BeforeOk (ops : List Oper) (acc : Array Nat) : Prop := ∀ j i, (acc.getD j 0).testBit i = true → ∃ o, ops[j]? = some o ∧ ∃ e ∈ o.after.toList, Region.binds .any e = true ∧ (i = e.on ∨ (acc.getD e.on 0).testBit i = true)

theorem getD_testBit_lt {acc : Array Nat} {j i : Nat} (h : (acc.getD j 0).testBit i = true) : j < acc.size := by
  rcases Nat.lt_or_ge j acc.size with h1 | h1
  · exact h1
  · rw [Array.getD_eq_getD_getElem?, Array.getElem?_eq_none h1] at h
    simp at h

theorem getD_push {acc : Array Nat} {x : Nat} {j : Nat} (h : j < acc.size) : (acc.push x).getD j 0 = acc.getD j 0 := by
  rw [Array.getD_eq_getD_getElem?, Array.getD_eq_getD_getElem?, Array.getElem?_push]
  have : j ≠ acc.size := by omega
  simp [this]

theorem before_fold : ∀ (l done : List Oper) (acc : Array Nat), acc.size = done.length → BeforeOk (done ++ l) acc → BeforeOk (done ++ l) (l.foldl (fun acc (o : Oper) => acc.push (o.after.foldl (fun s e => if Region.binds .any e then s ||| 2 ^ e.on ||| acc.getD e.on 0 else s) 0)) acc)
  | [], done, acc, _, h => h
  | o :: l, done, acc, hsz, h => by
    simp only [List.foldl_cons]
    have := before_fold l (done ++ [o]) (acc.push (o.after.foldl (fun s e => if Region.binds .any e then s ||| 2 ^ e.on ||| acc.getD e.on 0 else s) 0)) (by simp [hsz]) ?_
    · simpa using this
    · intro j i hb
      have hlt := getD_testBit_lt hb
      simp only [Array.size_push] at hlt
      by_cases hj : j < acc.size
      · rw [getD_push hj] at hb
        obtain ⟨o', h1, e, h2, h3, h4⟩ := h j i hb
        refine ⟨o', by simpa using h1, e, h2, h3, ?_⟩
        rcases h4 with h4 | h4
        · exact .inl h4
        · exact .inr (by rw [getD_push (getD_testBit_lt h4)]; exact h4)
      · have hj : j = acc.size := by omega
        subst hj
        have hx : (acc.push (o.after.foldl (fun s e => if Region.binds .any e then s ||| 2 ^ e.on ||| acc.getD e.on 0 else s) 0)).getD acc.size 0 = o.after.foldl (fun s e => if Region.binds .any e then s ||| 2 ^ e.on ||| acc.getD e.on 0 else s) 0 := by
          rw [Array.getD_eq_getD_getElem?, Array.getElem?_push]
          simp
        rw [hx, ← Array.foldl_toList] at hb
        rcases before_inner _ _ i hb with h1 | ⟨e, h1, h2, h3⟩
        · simp at h1
        · refine ⟨o, by simp [hsz], e, h1, h2, ?_⟩
          rcases h3 with h3 | h3
          · exact .inl h3
          · exact .inr (by rw [getD_push (getD_testBit_lt h3)]; exact h3)

theorem before_ok (ops : Array Oper) : BeforeOk ops.toList (Region.before ops) := by
  have := before_fold ops.toList [] #[] rfl (fun j i h => by simp at h)
  rw [List.nil_append] at this
  unfold Region.before
  rw [← Array.foldl_toList]
  exact this

theorem waits_spec {ops : Array Oper} {i j : Nat} (h : waitsFor ops i j = true) : ∃ o, ops[j]? = some o ∧ ∃ e ∈ o.after, Region.binds .any e = true ∧ (i = e.on ∨ ((Region.before ops).getD e.on 0).testBit i = true) := by
  obtain ⟨o, h1, e, h2, h3⟩ := before_ok ops j i h
  exact ⟨o, by simpa using h1, e, by simpa using h2, h3⟩

section
variable {P : Program} {H : Hints}

theorem updReg_id {s : St} : ({ s with reg := updReg s.reg [] } : St) = s := rfl

theorem runOp_spec {h : FnH} {p : Fns H} {ops : Array Oper} {o : Oper} {s s1 : St} {t : Tr} (hs : (runOp H h p ops o s).run = some (s1, t)) :
    ∃ upd val, s1 = ({ s with reg := updReg s.reg upd } : St).put o.dst val ∧ t.changed = upd.map (·.1) ∧
      ∀ s2 : St, (∀ d ∈ tmpsOf ops o, s2.slot d = s.slot d) → (∀ c, (c ∈ t.touched ∨ newOf o.dst c = true) → s2.reg c = s.reg c) →
        (runOp H h p ops o s2).run = some (({ s2 with reg := updReg s2.reg upd } : St).put o.dst val, t) := by
  have htmp : ∀ d, Operand.tmp d ∈ o.op.operands.toList → d ∈ tmpsOf ops o := by
    intro d hd
    unfold tmpsOf
    exact List.mem_append_left _ (List.mem_filterMap.2 ⟨.tmp d, hd, rfl⟩)
  unfold runOp at hs
  split at hs
  · rename_i hg
    obtain ⟨upd, val, h1, h2, h3⟩ := stepOp_spec hs
    refine ⟨upd, val, h1, h2, fun s2 k1 k2 => ?_⟩
    unfold runOp
    rw [hg]
    exact h3 s2 (fun d hd => k1 d (htmp d hd)) k2
  · rename_i j want hg
    split at hs
    · rename_i q hq
      have hqm : q ∈ tmpsOf ops o := by
        unfold tmpsOf
        rw [hg]
        refine List.mem_append_right _ ?_
        simp only [hq]
        simp
      split at hs
      · rename_i b hb
        have hsame := put_same hb
        have hgo : ((match b == want with
          | true => stepOp H h p o s
          | false => .ret (s.put o.dst .unit, ⟨[], []⟩)) : M (St × Tr)).run = some (s1, t) := by
          simp only [M.run] at hs
          cases b
          · simp only [cond_false] at hs
            rw [hsame] at hs
            exact hs
          · simp only [cond_true] at hs
            rw [hsame] at hs
            exact hs
        have hback : ∀ s2 : St, s2.slot q = s.slot q → (runOp H h p ops o s2).run = ((match b == want with
          | true => stepOp H h p o s2
          | false => .ret (s2.put o.dst .unit, ⟨[], []⟩)) : M (St × Tr)).run := by
          intro s2 h2
          rw [hb] at h2
          have hsame2 := put_same h2
          unfold runOp
          rw [hg]
          simp only [hq]
          rw [h2]
          simp only [M.run]
          cases b
          · simp only [cond_false]
            rw [hsame2]
            rfl
          · simp only [cond_true]
            rw [hsame2]
            rfl
        split at hgo
        · rename_i hbw
          obtain ⟨upd, val, h1, h2, h3⟩ := stepOp_spec hgo
          refine ⟨upd, val, h1, h2, fun s2 k1 k2 => ?_⟩
          rw [hback s2 (k1 q hqm), hbw]
          exact h3 s2 (fun d hd => k1 d (htmp d hd)) k2
        · rename_i hbw
          simp only [M.run, Option.some.injEq, Prod.mk.injEq] at hgo
          obtain ⟨rfl, rfl⟩ := hgo
          refine ⟨[], .unit, rfl, rfl, fun s2 k1 k2 => ?_⟩
          rw [hback s2 (k1 q hqm), hbw]
          rfl
      · rename_i hb
        simp only [M.run, Option.some.injEq, Prod.mk.injEq] at hs
        obtain ⟨rfl, rfl⟩ := hs
        refine ⟨[], .unit, rfl, rfl, fun s2 k1 k2 => ?_⟩
        have h2 := k1 q hqm
        rw [hb] at h2
        unfold runOp
        rw [hg]
        simp only [hq]
        rw [h2]
        rfl
      · simp [M.run] at hs
    · simp [M.run] at hs

def Apart (ops : Array Oper) (x y : Nat × Oper × Tr) : Prop := apartOp ops x.2.1 y.2.1 = true ∧ apartTr x.2.2 y.2.2 = true ∧ apartNew x.2.1 y.2.1 x.2.2 y.2.2 = true

inductive Runs (H : Hints) (h : FnH) (p : Fns H) (ops : Array Oper) : St → List (Nat × Oper × Tr) → St → Prop where
  | nil {s : St} : Runs H h p ops s [] s
  | cons {s s1 s2 : St} {i : Nat} {o : Oper} {t : Tr} {L : List (Nat × Oper × Tr)} : (runOp H h p ops o s).run = some (s1, t) → Runs H h p ops s1 L s2 → Runs H h p ops s ((i, o, t) :: L) s2

theorem not_hasN {l : List Nat} {n : Nat} : (!hasN l n) = true ↔ n ∉ l := by
  rw [Bool.not_eq_true', ← Bool.not_eq_true, hasN_iff]

theorem updReg_ind {g g' : Look} {l : List (Nat × Rg)} {c : Nat} (h : c ∈ l.map (·.1)) : updReg g l c = updReg g' l c := by
  induction l with
  | nil => cases h
  | cons a l ih =>
    obtain ⟨k, q⟩ := a
    rw [updReg_cons, updReg_cons]
    split
    · rfl
    · rename_i hk
      exact ih (by simpa [hk] using h)

theorem updReg_comm {g : Look} {l m : List (Nat × Rg)} (h : ∀ c ∈ l.map (·.1), c ∉ m.map (·.1)) : updReg (updReg g l) m = updReg (updReg g m) l := by
  funext c
  by_cases h1 : c ∈ l.map (·.1)
  · rw [updReg_miss (h c h1)]
    exact updReg_ind h1
  · rw [updReg_miss (g := updReg g m) h1]
    by_cases h2 : c ∈ m.map (·.1)
    · exact updReg_ind h2
    · rw [updReg_miss h2, updReg_miss h1, updReg_miss h2]

theorem Runs.swap {h : FnH} {p : Fns H} {ops : Array Oper} {x y : Nat × Oper × Tr} {L : List (Nat × Oper × Tr)} {s s' : St} (hr : Runs H h p ops s (x :: y :: L) s') (ha : Apart ops x y) : Runs H h p ops s (y :: x :: L) s' := by
  cases hr with
  | cons r1 hr =>
    rename_i s1 i o t
    cases hr with
    | cons r2 hr =>
      rename_i s2 j u v
      obtain ⟨a1, a2, a3⟩ := ha
      simp only at a1 a2 a3
      unfold apartOp at a1
      unfold apartTr at a2
      unfold apartNew at a3
      simp only [Bool.and_eq_true, List.all_eq_true, not_hasN] at a1 a2 a3
      obtain ⟨⟨a11, a12⟩, a13⟩ := a1
      obtain ⟨upd, val, e1, e2, e3⟩ := runOp_spec r1
      obtain ⟨upd', val', f1, f2, f3⟩ := runOp_spec r2
      have hd1 : ∀ d, u.dst = some d → d ∉ tmpsOf ops o := by
        intro d hd
        rw [hd] at a11
        exact not_hasN.1 a11
      have hd2 : ∀ d, o.dst = some d → d ∉ tmpsOf ops u := by
        intro d hd
        rw [hd] at a12
        exact not_hasN.1 a12
      have hd3 : ∀ d, o.dst = some d → u.dst ≠ some d := by
        intro d hd hu
        rw [hd, hu] at a13
        simp at a13
      -- y first
      have g1 := f3 s (fun d hd => by
        rw [e1, put_slot]
        split
        · rename_i h1; exact absurd hd (hd2 d h1)
        · rfl) (fun c hc => by
        rw [e1, put_reg]
        refine (updReg_miss ?_).symm
        rw [← e2]
        intro hcm
        rcases hc with hc | hc
        · exact (a2.1 c hcm).1 hc
        · have := a3.2 c hcm
          rw [hc] at this
          cases this)
      have g2 := e3 (({ s with reg := updReg s.reg upd' } : St).put u.dst val') (fun d hd => by
        rw [put_slot]
        split
        · rename_i h1; exact absurd hd (hd1 d h1)
        · rfl) (fun c hc => by
        rw [put_reg]
        refine updReg_miss ?_
        rw [← f2]
        intro hcm
        rcases hc with hc | hc
        · exact a2.2 c hcm hc
        · have := a3.1 c hcm
          rw [hc] at this
          cases this)
      have hdis : ∀ c ∈ upd'.map (·.1), c ∉ upd.map (·.1) := by
        intro c hc hc'
        rw [← f2] at hc
        rw [← e2] at hc'
        exact (a2.1 c hc').2 hc
      have hfin : ({ (({ s with reg := updReg s.reg upd' } : St).put u.dst val') with reg := updReg (({ s with reg := updReg s.reg upd' } : St).put u.dst val').reg upd } : St).put o.dst val = s2 := by
        rw [f1, e1]
        have hslot : ∀ i, ((({ (({ s with reg := updReg s.reg upd' } : St).put u.dst val') with reg := updReg (({ s with reg := updReg s.reg upd' } : St).put u.dst val').reg upd } : St).put o.dst val).slot i) = (({ (({ s with reg := updReg s.reg upd } : St).put o.dst val) with reg := updReg (({ s with reg := updReg s.reg upd } : St).put o.dst val).reg upd' } : St).put u.dst val').slot i := by
          intro i
          simp only [put_slot]
          by_cases h1 : o.dst = some i
          · have h2 : u.dst ≠ some i := hd3 i h1
            simp [h1, h2]
          · simp [h1]
        have hreg : ((({ (({ s with reg := updReg s.reg upd' } : St).put u.dst val') with reg := updReg (({ s with reg := updReg s.reg upd' } : St).put u.dst val').reg upd } : St).put o.dst val).reg) = (({ (({ s with reg := updReg s.reg upd } : St).put o.dst val) with reg := updReg (({ s with reg := updReg s.reg upd } : St).put o.dst val).reg upd' } : St).put u.dst val').reg := by
          simp only [put_reg]
          exact updReg_comm hdis
        have hext : ∀ a b : St, (∀ i, a.slot i = b.slot i) → a.reg = b.reg → a = b := by
          intro a b h1 h2
          obtain ⟨a1, a2⟩ := a
          obtain ⟨b1, b2⟩ := b
          have : a1 = b1 := funext h1
          subst this
          simp only at h2
          subst h2
          rfl
        exact hext _ _ hslot hreg
      rw [hfin] at g2
      exact .cons g1 (.cons g2 hr)

theorem Runs.front {h : FnH} {p : Fns H} {ops : Array Oper} {y : Nat × Oper × Tr} {L : List (Nat × Oper × Tr)} : ∀ (L1 : List (Nat × Oper × Tr)) {s s' : St}, Runs H h p ops s (L1 ++ y :: L) s' → (∀ x ∈ L1, Apart ops x y) → Runs H h p ops s (y :: (L1 ++ L)) s'
  | [], s, s', hr, _ => hr
  | x :: L1, s, s', hr, ha => by
    cases hr with
    | cons r1 hr =>
      have := Runs.front L1 hr (fun z hz => ha z (List.mem_cons_of_mem _ hz))
      exact (Runs.cons r1 this).swap (ha _ (by simp))

def zip3 : Nat → List Oper → List Tr → List (Nat × Oper × Tr)
  | i, o :: os, t :: ts => (i, o, t) :: zip3 (i + 1) os ts
  | _, _, _ => []

theorem runs_of {h : FnH} {p : Fns H} {ops : Array Oper} : ∀ (l : List Oper) (i : Nat) {s s' : St} {ts : List Tr}, (runOps H h p ops l s).run = some (s', ts) → Runs H h p ops s (zip3 i l ts) s' ∧ ts.length = l.length
  | [], i, s, s', ts, hr => by
    simp only [runOps, M.run, Option.some.injEq, Prod.mk.injEq] at hr
    obtain ⟨rfl, rfl⟩ := hr
    exact ⟨.nil, rfl⟩
  | o :: l, i, s, s', ts, hr => by
    simp only [runOps, M.run_bind] at hr
    cases h1 : (runOp H h p ops o s).run with
    | none => simp [h1] at hr
    | some r1 =>
      obtain ⟨s2, t⟩ := r1
      simp only [h1, Option.bind_some, M.run_bind] at hr
      cases h2 : (runOps H h p ops l s2).run with
      | none => simp [h2] at hr
      | some r2 =>
        obtain ⟨s3, ts'⟩ := r2
        simp only [h2, Option.bind_some, M.run, Option.some.injEq, Prod.mk.injEq] at hr
        obtain ⟨rfl, rfl⟩ := hr
        obtain ⟨k1, k2⟩ := runs_of l (i + 1) h2
        exact ⟨.cons h1 k1, by simp [k2]⟩

theorem zip3_mem : ∀ (l : List Oper) (ts : List Tr) (i : Nat) (x : Nat × Oper × Tr), x ∈ zip3 i l ts → ∃ k, x.1 = i + k ∧ l[k]? = some x.2.1
  | [], ts, i, x, h => by simp [zip3] at h
  | o :: l, [], i, x, h => by simp [zip3] at h
  | o :: l, t :: ts, i, x, h => by
    simp only [zip3] at h
    rcases List.mem_cons.1 h with rfl | h
    · exact ⟨0, rfl, rfl⟩
    · obtain ⟨k, h1, h2⟩ := zip3_mem l ts (i + 1) x h
      exact ⟨k + 1, by omega, by simpa using h2⟩

theorem zip3_all : ∀ (l : List Oper) (ts : List Tr) (i k : Nat), ts.length = l.length → k < l.length → ∃ x ∈ zip3 i l ts, x.1 = i + k
  | [], ts, i, k, _, h => by simp at h
  | o :: l, [], i, k, h, _ => by simp at h
  | o :: l, t :: ts, i, 0, _, _ => ⟨(i, o, t), by simp [zip3], rfl⟩
  | o :: l, t :: ts, i, k + 1, h1, h2 => by
    obtain ⟨x, h3, h4⟩ := zip3_all l ts (i + 1) k (by simpa using h1) (by simpa using h2)
    exact ⟨x, by simp only [zip3]; exact List.mem_cons_of_mem _ h3, by omega⟩

theorem zip3_length : ∀ (l : List Oper) (ts : List Tr) (i : Nat), ts.length = l.length → (zip3 i l ts).length = l.length
  | [], [], i, _ => rfl
  | o :: l, [], i, h => by simp at h
  | [], t :: ts, i, h => by simp at h
  | o :: l, t :: ts, i, h => by simp only [zip3, List.length_cons]; rw [zip3_length l ts (i + 1) (by simpa using h)]

def PairOk (ops : Array Oper) (x y : Nat × Oper × Tr) : Prop := x.1 < y.1 ∧ (waitsFor ops x.1 y.1 = true ∨ Apart ops x y)

theorem pairs_of {ops : Array Oper} {i : Nat} {o : Oper} {t : Tr} : ∀ (l : List Oper) (ts : List Tr) (j : Nat), i < j → pairsOk ops i o t j l ts = true → ∀ y ∈ zip3 j l ts, PairOk ops (i, o, t) y
  | [], ts, j, _, _, y, hy => by simp [zip3] at hy
  | u :: l, [], j, _, _, y, hy => by simp [zip3] at hy
  | u :: l, v :: ts, j, hij, hp, y, hy => by
    simp only [pairsOk, Bool.and_eq_true, Bool.or_eq_true] at hp
    simp only [zip3] at hy
    rcases List.mem_cons.1 hy with rfl | hy
    · refine ⟨hij, ?_⟩
      rcases hp.1 with h1 | ⟨⟨h1, h2⟩, h3⟩
      · exact .inl h1
      · exact .inr ⟨h1, h2, h3⟩
    · exact pairs_of l ts (j + 1) (by omega) hp.2 y hy

theorem allPairs_of {ops : Array Oper} : ∀ (l : List Oper) (ts : List Tr) (i : Nat), allPairs ops i l ts = true → (zip3 i l ts).Pairwise (PairOk ops)
  | [], ts, i, _ => by simp [zip3]
  | o :: l, [], i, _ => by simp [zip3]
  | o :: l, t :: ts, i, h => by
    simp only [allPairs, Bool.and_eq_true] at h
    simp only [zip3, List.pairwise_cons]
    exact ⟨pairs_of l ts (i + 1) (by omega) h.1, allPairs_of l ts (i + 1) h.2⟩

theorem edges_of : ∀ (l : List Oper) (i : Nat), edgesOk i l = true → ∀ k o, l[k]? = some o → ∀ e ∈ o.after, Region.binds .any e = true → e.on < i + k
  | [], i, _, k, o, h => by simp at h
  | u :: l, i, h, k, o, ho => by
    simp only [edgesOk, Bool.and_eq_true, List.all_eq_true, Bool.or_eq_true, Bool.not_eq_true', Nat.blt_eq] at h
    cases k with
    | zero =>
      simp at ho
      subst ho
      intro e he hb
      rcases h.1 e (by simpa using he) with h1 | h1
      · rw [hb] at h1; cases h1
      · simpa using h1
    | succ k =>
      intro e he hb
      have := edges_of l (i + 1) h.2 k o (by simpa using ho) e he hb
      omega

variable {ro : Option Nat} {B : Nat} {w : World} {S : Nat → Prop} {hv : Nat → Value} {F : Nat → Nat → Prop} {g : Look}

theorem drawn_sound (hf : Fit P H) {h : FnH} {p : Fns H} (hp : ∀ key x y, p.call key x = some y → CallOk P H key x y) {ops : Array Oper} (hed : edgesOk 0 ops.toList = true) {Q : Exit → Act → World → Prop} {s' : St} {W : List Nat} : ∀ (n : Nat) (L : List (Nat × Oper × Tr)) {s : St} {a : Act} {w : World} {S : Nat → Prop} {hv : Nat → Value} {F : Nat → Nat → Prop} (listed : Array Bool), L.length = n → listed.size = ops.size →
    Rel h.f.ntmps B s a w S hv F → Runs H h p ops s L s' → L.Pairwise (PairOk ops) → (∀ x ∈ L, ∀ k, x.2.1.dst = some k → k ∈ W) → (∀ x ∈ L, ops[x.1]? = some x.2.1) → (∀ i, i < ops.size → listed.getD i true = false → ∃ x ∈ L, x.1 = i) → (∀ x ∈ L, listed.getD x.1 true = false) →
    (∀ j, listed.getD j false = true → ∀ i, ((Region.before ops).getD j 0).testBit i = true → listed.getD i false = true) →
    (∀ a' w', Leads h.f.ntmps B W a w S hv F s.reg s' a' w' → Q .normal a' w') → wpAnyIn (Fw ro) 0 P .any ops Q n listed a w := by
  intro n
  induction n with
  | zero =>
    intro L s a w S hv F listed hn hsz hr hruns hpw hWs hops hall hun hcl hK
    have : L = [] := by simpa using hn
    subst this
    refine ⟨?_, ?_⟩
    · rw [List.eq_nil_iff_forall_not_mem]
      intro i hi
      obtain ⟨h1, o, h2, _⟩ := mem_ready.1 hi
      obtain ⟨x, hx, _⟩ := hall i (Array.getElem?_eq_some_iff.1 h2).1 h1
      cases hx
    · cases hruns
      exact hK _ _ (Leads.refl hr)
  | succ n ih =>
    intro L s a w S hv F listed hn hsz hr hruns hpw hWs hops hall hun hcl hK
    have hlisted : ∀ i, i < ops.size → listed.getD i false = false → listed.getD i true = false := by
      intro i hi h0
      have hlt : i < listed.size := by omega
      rw [Array.getD_eq_getD_getElem?, Array.getElem?_eq_getElem hlt] at h0 ⊢
      simpa using h0
    have hunl : ∀ x ∈ L, listed.getD x.1 false = false := by
      intro x hx
      have h0 := hun x hx
      rcases Nat.lt_or_ge x.1 listed.size with hlt | hge
      · rw [Array.getD_eq_getD_getElem?, Array.getElem?_eq_getElem hlt] at h0 ⊢
        simpa using h0
      · rw [Array.getD_eq_getD_getElem?, Array.getElem?_eq_none hge]
        rfl
    refine ⟨fun hnil => ?_, fun i hi => ?_⟩
    · exfalso
      cases L with
      | nil => simp at hn
      | cons x L =>
        have : x.1 ∈ Region.ready .any ops listed := by
          refine mem_ready.2 ⟨hun x (by simp), x.2.1, hops x (by simp), fun e he hb => ?_⟩
          have hop := hops x (by simp)
          have hlt := edges_of ops.toList 0 hed x.1 x.2.1 (by simpa using hop) e he hb
          have hxs := (Array.getElem?_eq_some_iff.1 hop).1
          cases hle : listed.getD e.on false with
          | true => rfl
          | false =>
            obtain ⟨y, hy, hye⟩ := hall e.on (by omega) (hlisted _ (by omega) hle)
            rcases List.mem_cons.1 hy with rfl | hy
            · omega
            · have := ((List.pairwise_cons.1 hpw).1 y hy).1
              omega
        rw [hnil] at this
        cases this
    · obtain ⟨h1, o, h2, h3⟩ := mem_ready.1 hi
      obtain ⟨x, hx, hxi⟩ := hall i (Array.getElem?_eq_some_iff.1 h2).1 h1
      obtain ⟨L1, L2, rfl⟩ := List.append_of_mem hx
      obtain ⟨i', o', t⟩ := x
      simp only at hxi
      subst hxi
      have ho : o' = o := by
        have := hops (i', o', t) hx
        simp only at this
        rw [h2] at this
        simpa using this.symm
      subst ho
      have hap : ∀ z ∈ L1, Apart ops z (i', o', t) := by
        intro z hz
        have hpz := (List.pairwise_append.1 hpw).2.2 z hz (i', o', t) (by simp)
        rcases hpz.2 with h4 | h4
        · exfalso
          obtain ⟨o2, k1, e, k2, k3, k4⟩ := waits_spec h4
          simp only at k1
          rw [h2] at k1
          simp only [Option.some.injEq] at k1
          subst k1
          have hle := h3 e k2 k3
          have hz0 := hunl z (List.mem_append_left _ hz)
          rcases k4 with k4 | k4
          · rw [k4, hle] at hz0; cases hz0
          · rw [hcl _ hle _ k4] at hz0; cases hz0
        · exact h4
      have hfr := Runs.front L1 hruns hap
      cases hfr with
      | cons r1 hfr =>
        rename_i s1
        have hsub : (L1 ++ L2).Sublist (L1 ++ (i', o', t) :: L2) := List.Sublist.append_left (List.sublist_cons_self _ _) L1
        have hne : ∀ z ∈ L1 ++ L2, z.1 ≠ i' := by
          intro z hz
          rcases List.mem_append.1 hz with hz | hz
          · have := ((List.pairwise_append.1 hpw).2.2 z hz (i', o', t) (by simp)).1
            simp only at this
            omega
          · have := ((List.pairwise_cons.1 (List.pairwise_append.1 hpw).2.1).1 z hz).1
            simp only at this
            omega
        have hturn : Turn P ro ops o' Q (wpAnyIn (Fw ro) 0 P .any ops Q n (listed.setIfInBounds i' true)) a w := by
          refine runOp_sound hf hp hr r1 (hWs (i', o', t) hx) fun a' w' hlead => ?_
          obtain ⟨S', hv', F', q1, q2, q5⟩ := hlead
          refine ih (L1 ++ L2) (listed.setIfInBounds i' true) (by simp at hn ⊢; omega) (by simp [hsz]) q1 hfr (hpw.sublist hsub) (fun z hz => hWs z (hsub.subset hz)) (fun z hz => hops z (hsub.subset hz)) ?_ ?_ ?_ ?_
          · intro k hk hkl
            by_cases hki : i' = k
            · subst hki
              rw [Array.getD_eq_getD_getElem?] at hkl
              have : i' < listed.size := by omega
              simp [this] at hkl
            · rw [getD_set_ne true hki] at hkl
              obtain ⟨z, hz, hzk⟩ := hall k hk hkl
              refine ⟨z, ?_, hzk⟩
              rcases List.mem_append.1 hz with hz | hz
              · exact List.mem_append_left _ hz
              · rcases List.mem_cons.1 hz with rfl | hz
                · exact absurd hzk hki
                · exact List.mem_append_right _ hz
          · intro z hz
            rw [getD_set_ne true (fun hh => hne z hz hh.symm)]
            exact hun z (hsub.subset hz)
          · intro j hj k hk
            by_cases hji : i' = j
            · subst hji
              obtain ⟨o2, k1, e, k2, k3, k4⟩ := waits_spec (i := k) (j := i') hk
              rw [h2] at k1
              simp only [Option.some.injEq] at k1
              subst k1
              have hle := h3 e k2 k3
              rcases k4 with k4 | k4
              · rw [k4]; exact getD_set_true hle
              · exact getD_set_true (hcl _ hle _ k4)
            · rw [getD_set_ne false hji] at hj
              exact getD_set_true (hcl j hj k hk)
          · intro a2 w2 hl2
            obtain ⟨S2, hv2, F2, q3, q4, q6⟩ := hl2
            exact hK _ _ ⟨S2, hv2, F2, q3, q2.trans q4, fun i hi => by rw [q6 i hi, q5 i hi]⟩
        unfold wpOpIn
        simp only [h2]
        exact hturn

/-- only the count of draws changes -/
theorem same_heap_step {w' : World} (hI : Inv w S hv F g) (hw : w'.heap = w.heap) (hst : Still w w') : Step' w S hv F g w' S hv F g := by
  refine mkStep hI (fun _ => False) (fun _ _ => rfl) (fun _ _ => rfl) (by rw [hw]; exact Nat.le_refl _) (fun b _ _ => by rw [hw]) (fun _ h => h) (fun _ _ => rfl) (fun _ h => h.elim) (fun _ _ h => h.elim) (fun _ _ _ h => h.elim) (fun _ _ h => h.elim) (fun _ _ h => h.elim) (fun _ _ h => h.elim) (fun _ _ _ h => h.elim) (fun b h => .inl h) (fun b h => by rw [hw]; exact hI.sold b h) (fun _ _ h => h.elim)

theorem Rel.same_heap {n B : Nat} {s : St} {a : Act} {w' : World} (hr : Rel n B s a w S hv F) (hw : w'.heap = w.heap) (hst : Still w w') : Rel n B s a w' S hv F := by
  have hs := same_heap_step hr.inv hw hst
  exact ⟨hs.inv, fun i => VR_mono hs.ext _ _ (hr.sl i), hr.df.step hs, hr.sz⟩

theorem region_sound (hf : Fit P H) {h : FnH} {p : Fns H} (hp : ∀ key x y, p.call key x = some y → CallOk P H key x y) {id : Nat} {ops : Array Oper} {draw : Bool} {s s' : St} {ts : List Tr} {a : Act} (hr : Rel h.f.ntmps B s a w S hv F) (hs : (runOps H h p ops ops.toList s).run = some (s', ts))
    (hd : (!draw || (edgesOk 0 ops.toList && allPairs ops 0 ops.toList ts)) = true) {W : List Nat} (hW : ∀ o ∈ ops.toList, ∀ k, o.dst = some k → k ∈ W) {Q : Exit → Act → World → Prop} (hK : ∀ a' w', Leads h.f.ntmps B W a w S hv F s.reg s' a' w' → Q .normal a' w') : (Code.region id ops draw).wpIn (Fw ro) 0 P Q a w := by
  cases draw with
  | false => 
    refine wpIn_region ?_
    have := runOps_sound (ro := ro) (ops := ops) (Q := Q) hf hp ops.toList 0 hr hs hW (fun k _ => by simp) hK
    rw [List.range_eq_range']
    simpa using this
  | true =>
    simp only [Bool.not_true, Bool.false_or, Bool.and_eq_true] at hd
    obtain ⟨h1, h2⟩ := runs_of ops.toList 0 hs
    refine wpIn_region_any hf.mixed ?_
    have hw : ({ w with drawn := w.drawn + 1 } : World).heap = w.heap := rfl
    have hst := same_heap_step hr.inv hw ⟨rfl, rfl, rfl, Nat.le_succ _⟩
    refine drawn_sound (W := W) hf hp hd.1 ops.size (zip3 0 ops.toList ts) _ (by rw [zip3_length _ _ _ h2]; simp) (by simp) (hr.same_heap hw ⟨rfl, rfl, rfl, Nat.le_succ _⟩) h1 (allPairs_of _ _ _ hd.2) ?_ ?_ ?_ ?_ ?_ ?_
    · intro x hx
      obtain ⟨k, k1, k2⟩ := zip3_mem _ _ _ _ hx
      exact hW _ (List.mem_of_getElem? k2)
    · intro x hx
      obtain ⟨k, k1, k2⟩ := zip3_mem _ _ _ _ hx
      rw [Nat.zero_add] at k1
      rw [k1]
      simpa using k2
    · intro i hi _
      obtain ⟨x, hx, h3⟩ := zip3_all ops.toList ts 0 i h2 (by simpa using hi)
      exact ⟨x, hx, by omega⟩
    · intro x hx
      obtain ⟨k, k1, k2⟩ := zip3_mem _ _ _ _ hx
      have hk : k < ops.size := by
        have := (List.getElem?_eq_some_iff.1 k2).1
        simpa using this
      rw [Nat.zero_add] at k1
      rw [Array.getD_eq_getD_getElem?, k1]
      simp [hk]
    · intro j hj
      exfalso
      rw [Array.getD_eq_getD_getElem?] at hj
      rcases Nat.lt_or_ge j ops.size with h3 | h3
      · simp [h3] at hj
      · rw [Array.getElem?_eq_none (by simpa using h3)] at hj
        simp at hj
    · intro a' w' hl
      obtain ⟨S', hv', F', q1, q2, q3⟩ := hl
      exact hK _ _ ⟨S', hv', F', q1, hst.trans q2, q3⟩
end
end Go.Rf

namespace Go.Rf

/-! ### footprints without marks -/
/-- a record of a range over a function, or the block for its rounds' deferred calls -/
def Obj.isMark : Obj → Bool
  | .deferred _ => true
  | .loop _ => true
  | _ => false
def NM (w : World) (b : Nat) : Prop := ∀ o, w.heap[b]? = some o → Obj.isMark o = false

theorem NM_cells {w : World} {b : Nat} {arr : Array Value} {T : Nat} {z : Nat × Nat} (h : w.heap[b]? = some (.cells arr T z)) : NM w b := fun o ho => by rw [h] at ho; simp at ho; subst ho; rfl
theorem NM_map {w : World} {b : Nat} {arr : Array MapEntry} {clk : Nat} (h : w.heap[b]? = some (.map arr clk)) : NM w b := fun o ho => by rw [h] at ho; simp at ho; subst ho; rfl

theorem RowB_shrink {α : Type} {w : World} {E : α → (Nat → Prop) → List Value → Prop} {sz : Nat} {n : Bool} {xs : List α} {F : Nat → Prop} {v : Value}
    (hE : ∀ e G c, E e G c → E e (fun b => G b ∧ NM w b) c) (h : RowB w E sz n xs F v) : RowB w E sz n xs (fun b => F b ∧ NM w b) v := by
  rcases h with h | ⟨h0, b, o, cap, arr, T, G, h1, h2, h3, h4, h5, h6, h7, h8, h9⟩
  · exact .inl h
  · refine .inr ⟨h0, b, o, cap, arr, T, fun i b => G i b ∧ NM w b, h1, h2, h3, h4, h5, ⟨h6, NM_cells h4⟩, fun i b' hg => ⟨⟨(h7 i b' hg.1).1, hg.2⟩, (h7 i b' hg.1).2⟩, fun i j b' hi hj => h8 i j b' hi.1 hj.1, fun i e he => ?_⟩
    obtain ⟨c, hl, hr, hc⟩ := h9 i e he
    exact ⟨c, hl, hr, hE _ _ _ hc⟩

theorem DRep_shrink {w : World} : ∀ (t : Ty) (x : Den t) (F : Nat → Prop) (cs : List Value), DRep w t x F cs → DRep w t x (fun b => F b ∧ NM w b) cs := by
  intro t
  induction t with
  | int k => intro x F cs h; simpa only [DRep] using h
  | bool => intro x F cs h; simpa only [DRep] using h
  | nil => intro x F cs h; simpa only [DRep] using h
  | one a ih => intro x F cs h; exact ih x F cs h
  | pair a b iha ihb =>
    intro x F cs h
    simp only [DRep] at h ⊢
    obtain ⟨c, d, F1, F2, e, g1, g2, g3, g4, g5⟩ := h
    exact ⟨c, d, fun b => F1 b ∧ NM w b, fun b => F2 b ∧ NM w b, e, fun b hb => ⟨g1 b hb.1, hb.2⟩, fun b hb => ⟨g2 b hb.1, hb.2⟩, fun b h1 h2 => g3 b h1.1 h2.1, iha _ _ _ g4, ihb _ _ _ g5⟩
  | sl t ih =>
    intro x F cs h
    simp only [DRep] at h ⊢
    obtain ⟨v, e, hr⟩ := h
    exact ⟨v, e, RowB_shrink (fun e G c hc => ih e G c hc) hr⟩
  | fn f c ih => intro x F cs h; simp only [DRep] at h
  | hsl t ih => intro x F cs h; simp only [DRep] at h

theorem Lent_shrink {w : World} : ∀ (t : Ty) (x : Den t) (q : List Step) (F : Nat → Prop) (cs : List Value) (v : Value), Lent w t x q F cs v → Lent w t x q (fun b => F b ∧ NM w b) cs v := by
  intro t
  induction t with
  | one a ih =>
    intro x q F cs v h
    cases q with
    | nil => simp only [Lent] at h
    | cons s q => cases s <;> simp only [Lent] at h ⊢; exact ih _ _ _ _ _ h
  | pair a b iha ihb =>
    intro x q F cs v h
    cases q with
    | nil => simp only [Lent] at h
    | cons s q =>
      cases s <;> simp only [Lent] at h ⊢
      · obtain ⟨c, d, F1, F2, e, g1, g2, g3, g4, g5⟩ := h
        exact ⟨c, d, fun b => F1 b ∧ NM w b, fun b => F2 b ∧ NM w b, e, fun b hb => ⟨g1 b hb.1, hb.2⟩, fun b hb => ⟨g2 b hb.1, hb.2⟩, fun b h1 h2 => g3 b h1.1 h2.1, iha _ _ _ _ _ g4, DRep_shrink _ _ _ _ g5⟩
      · obtain ⟨hn, c, d, F1, F2, e, g1, g2, g3, g4, g5⟩ := h
        exact ⟨hn, c, d, fun b => F1 b ∧ NM w b, fun b => F2 b ∧ NM w b, e, fun b hb => ⟨g1 b hb.1, hb.2⟩, fun b hb => ⟨g2 b hb.1, hb.2⟩, fun b h1 h2 => g3 b h1.1 h2.1, DRep_shrink _ _ _ _ g4, ihb _ _ _ _ _ g5⟩
  | sl t ih =>
    intro x q F cs v h
    cases q with
    | nil => simpa only [Lent] using h
    | cons s q => simp only [Lent] at h
  | _ => intro x q F cs v h; simp only [Lent] at h

theorem GRep_shrink {w : World} {S : Nat → Prop} {hv : Nat → Value} {g : Look} {F : Nat → Nat → Prop} {c : Nat} {r : Rg} (h : GRep w S hv g F c r) : GRep w S hv g (fun c b => F c b ∧ NM w b) c r := by
  cases r with
  | row t dp n xs =>
    simp only [GRep] at h ⊢
    refine RowB_shrink (fun e G c hc => ?_) h
    cases dp
    · exact hc
    · exact DRep_shrink _ _ _ _ hc
  | rowl t n xs i q d =>
    simp only [GRep] at h ⊢
    refine ⟨h.1, h.2.1, RowB_shrink (fun e G c hc => ?_) h.2.2⟩
    rcases hc with ⟨h1, h2⟩ | ⟨h1, h2⟩
    · exact .inl ⟨h1, DRep_shrink _ _ _ _ h2⟩
    · exact .inr ⟨h1, Lent_shrink _ _ _ _ _ _ h2⟩
  | box a =>
    simp only [GRep] at h ⊢
    obtain ⟨b, arr, T, h1, h2, h3, h4⟩ := h
    exact ⟨b, arr, T, h1, h2, ⟨h3, NM_cells h2⟩, h4⟩
  | map k v es =>
    simp only [GRep] at h ⊢
    obtain ⟨h0, b, arr, clk, h1, h2, h3, h4⟩ := h
    exact ⟨h0, b, arr, clk, h1, h2, ⟨h3, NM_map h2⟩, h4⟩
  | fz t x => exact h
  | fzb t x => exact h
  | gone => trivial

theorem Inv.shrink {w : World} {S : Nat → Prop} {hv : Nat → Value} {F : Nat → Nat → Prop} {g : Look} (h : Inv w S hv F g) : Inv w S hv (fun c b => F c b ∧ NM w b) g :=
  ⟨fun c r hr => GRep_shrink (h.rep c r hr), fun c b hb => h.live c b hb.1, fun c c' b h1 h2 => h.disj c c' b h1.1 h2.1, fun c b hb => h.shr c b hb.1, fun c b hb => h.old c b hb.1, h.sold⟩

theorem Step'.shrink {w w' : World} {S S' : Nat → Prop} {hv hv' : Nat → Value} {F F' : Nat → Nat → Prop} {g g' : Look} (h : Step' w S hv F g w' S' hv' F' g') : Step' w S hv F g w' S' hv' (fun c b => F' c b ∧ NM w' b) g' :=
  ⟨h.inv.shrink, h.ext, h.bS, fun c b hb => h.bF c b hb.1, h.fr, h.sz, h.st⟩

/-- what is no mark's -/
theorem Marks.other {w : World} {F F' : Nat → Nat → Prop} {B : Nat} {ds : List Deferred} (h : Marks w F B ds) : Marks w (fun c b => F' c b ∧ NM w b) B ds :=
  ⟨h.1, h.2.1, fun d hd => by
    obtain ⟨D, h1, h2, h3, h4⟩ := h.2.2 d hd
    exact ⟨D, h1, h2, h3, fun c hc => by have := hc.2 _ h3; simp [Obj.isMark] at this⟩⟩

/-- a mark turns: nothing that is spoken of does -/
theorem ext_turn {w : World} {S : Nat → Prop} {hv : Nat → Value} {g : Look} {l : Nat} {o : Obj} (o' : Obj) (hl : w.heap[l]? = some o) (ho : Obj.isMark o = true) : Ext w S hv g (w.putObj l o') S hv g :=
  ⟨fun b i v hb hc => by
    by_cases h : b = l
    · subst h
      simp only [World.cell?, hl] at hc
      cases o <;> simp [Obj.isMark] at ho <;> simp at hc
    · rw [cell_heap (World.putObj_heap_other h)]; exact hc, fun _ h => h, fun _ _ => rfl, fun _ h => h, fun _ _ _ h => h⟩

theorem Inv.turn {w : World} {S : Nat → Prop} {hv : Nat → Value} {F : Nat → Nat → Prop} {g : Look} (h : Inv w S hv F g) {l : Nat} {o : Obj} (o' : Obj) (hl : w.heap[l]? = some o) (ho : Obj.isMark o = true) : Inv (w.putObj l o') S hv (fun c b => F c b ∧ NM w b) g := by
  have h1 := h.shrink
  refine ⟨fun c r hr => GRep_mono (ext_turn o' hl ho) (by rw [hr]; exact fun h => by cases h) (fun _ h => h) (fun b hb => ?_) (h1.rep c r hr), h1.live, h1.disj, h1.shr, fun c b hb => by rw [World.putObj_size]; exact h1.old c b hb, fun b hb => by rw [World.putObj_size]; exact h1.sold b hb⟩
  refine World.putObj_heap_other fun e => ?_
  subst e
  rw [hb.2 _ hl] at ho
  cases ho

theorem Step'.turn {w w' : World} {S S' : Nat → Prop} {hv hv' : Nat → Value} {F F' : Nat → Nat → Prop} {g g' : Look} (h : Step' w S hv F g w' S' hv' F' g') {l : Nat} {o : Obj} (o' : Obj) (hl : w'.heap[l]? = some o) (ho : Obj.isMark o = true) (hw : w.heap.size ≤ l) : Step' w S hv F g (w'.putObj l o') S' hv' (fun c b => F' c b ∧ NM w' b) g' :=
  ⟨h.inv.turn o' hl ho, ⟨fun b i v hb hc => (ext_turn (S := S') (hv := hv') (g := g') o' hl ho).keep b i v (h.ext.sub b hb) (h.ext.keep b i v hb hc), h.ext.sub, h.ext.hv, h.ext.used, h.ext.len⟩, h.bS, fun c b hb => h.bF c b hb.1,
    fun b hb hn => by rw [World.putObj_heap_other (by omega)]; exact h.fr b hb hn, by rw [World.putObj_size]; exact h.sz, h.st⟩

theorem Marks.turn {w : World} {F F' : Nat → Nat → Prop} {B : Nat} {ds : List Deferred} (h : Marks w F B ds) {l : Nat} {o : Obj} (o' : Obj) (hl : w.heap[l]? = some o) (hne : ∀ d ∈ ds, d.target ≠ .collected l) (hF : ∀ c b, F' c b → ∃ c', F c' b) : Marks (w.putObj l o') F' B ds :=
  ⟨by rw [World.putObj_size]; exact h.1, h.2.1, fun d hd => by
    obtain ⟨D, h1, h2, h3, h4⟩ := h.2.2 d hd
    refine ⟨D, h1, h2, ?_, fun c hc => by obtain ⟨c', hc'⟩ := hF c D hc; exact h4 c' hc'⟩
    rw [World.putObj_heap_other (fun e => hne d hd (by rw [h1, e]))]
    exact h3⟩

section
variable {P : Program} {H : Hints} {w w' : World} {S S' S0 : Nat → Prop} {hv hv' : Nat → Value} {F F' : Nat → Nat → Prop} {g g' gl : Look}

theorem settleL_step : ∀ (l : List Nat) {S : Nat → Prop} {hv : Nat → Value} {F : Nat → Nat → Prop} {g : Look}, Inv w S hv F g → ∃ S' hv' F', Step' w S hv F g w S' hv' F' (settleL g l)
  | [], S, hv, F, g, hI => ⟨S, hv, F, Step'.refl hI⟩
  | c :: l, S, hv, F, g, hI => by
    unfold settleL
    split
    · rename_i r hr
      split
      · rename_i r' k ks hs
        obtain ⟨S1, hv1, F1, h1⟩ := settle_step hI (fun _ _ h => h) hr hs (by simp)
        obtain ⟨S2, hv2, F2, h2⟩ := settleL_step l h1.inv
        exact ⟨S2, hv2, F2, h1.trans h2⟩
      · exact settleL_step l hI
    · exact settleL_step l hI

theorem Rel.settle {n B : Nat} {s : St} {a : Act} (hr : Rel n B s a w S hv F) (l : List SV) : Leads n B [] a w S hv F s.reg (s.settle l) a w := by
  obtain ⟨S', hv', F', h⟩ := settleL_step (reach s.reg 3 (l.flatMap SV.refs)) hr.inv
  exact ⟨S', hv', F', ⟨h.inv, fun i => VR_mono h.ext _ _ (hr.sl i), hr.df.step h, hr.sz⟩, h, fun _ _ => rfl⟩

/-- what lies at a slot, or at a region's number -/
def valAt (hv : Nat → Value) (a : Act) (i : Nat) : Value := if 2000000 ≤ i then hv (i - 2000000) else if 1000000 ≤ i then hv (i - 1000000) else a.tmps.getD i undef

theorem at_VR {n B : Nat} {s : St} {a : Act} (hr : Rel n B s a w S hv F) {i : Nat} {sh : SS} (hok : i < 1000000 ∨ sh.isOB = true) (hany : sh.isAny = false) {acc : Acc} {r : List D × Acc} (he : (ext s.reg sh (s.at i) acc).run = some r) : VR w S hv s.reg (s.at i) (valAt hv a i) := by
  by_cases h1 : 2000000 ≤ i
  · have hat : s.at i = .ptr (i - 2000000) [] := by
      unfold St.at
      have : Nat.ble 2000000 i = true := Nat.ble_eq_true_of_le h1
      rw [this]; rfl
    have hv1 : valAt hv a i = hv (i - 2000000) := by simp [valAt, h1]
    rw [hat] at he ⊢
    rw [hv1]
    have hOB : sh.isOB = true := hok.resolve_left (by omega)
    cases sh <;> simp [SS.isOB] at hOB
    · simp [SS.isAny] at hany
    · simp [ext, M.run] at he
    · simp only [ext] at he
      split at he
      · rename_i r' heq hf'
        simp only [SV.ptr.injEq, and_true] at heq
        subst heq
        split at he
        · rename_i b hg
          have hgr := hr.inv.rep _ _ hg
          simp only [GRep] at hgr
          obtain ⟨bl, arr, T, k1, k2, k3, k4⟩ := hgr
          rw [VR_cell rfl]
          simp only [CRep]
          refine ⟨by rw [hg]; simp, ?_, by rw [k1]; rfl, trivial⟩
          rw [k1]
          simp [adr, pathOff]
        · simp [M.run] at he
      · simp [M.run] at he
    · simp [ext, M.run] at he
  · by_cases h2 : 1000000 ≤ i
    · have hat : s.at i = .ref (i - 1000000) := by
        unfold St.at
        have e1 : Nat.ble 2000000 i = false := by rw [← Bool.not_eq_true, Nat.ble_eq]; exact h1
        have e2 : Nat.ble 1000000 i = true := Nat.ble_eq_true_of_le h2
        rw [e1, e2]; rfl
      have hv1 : valAt hv a i = hv (i - 1000000) := by simp [valAt, h1, h2]
      rw [hat] at he ⊢
      rw [hv1]
      have hOB : sh.isOB = true := hok.resolve_left (by omega)
      cases sh <;> simp [SS.isOB] at hOB
      · simp [SS.isAny] at hany
      · simp only [ext] at he
        split at he
        · rename_i u dp m xs hg
          have hh := hdr_row hr.inv hg
          rw [VR_cell rfl]
          simp only [CRep]
          refine ⟨by rw [hg]; simp, ?_, trivial⟩
          rcases hh with ⟨_, _, h⟩ | ⟨_, _, b, o, cap, h, _⟩ <;> rw [h] <;> rfl
        · simp [M.run] at he
      · simp [ext, M.run] at he
      · simp only [ext] at he
        split at he
        · rename_i k' v' es hg
          have hgr := hr.inv.rep _ _ hg
          simp only [GRep] at hgr
          obtain ⟨_, b, arr, clk, h, _⟩ := hgr
          rw [VR_cell rfl]
          simp only [CRep]
          exact ⟨by rw [hg]; simp, by rw [h]; rfl, trivial⟩
        · simp [M.run] at he
    · have hat : s.at i = s.slot i := by
        unfold St.at
        have e1 : Nat.ble 2000000 i = false := by rw [← Bool.not_eq_true, Nat.ble_eq]; exact h1
        have e2 : Nat.ble 1000000 i = false := by rw [← Bool.not_eq_true, Nat.ble_eq]; exact h2
        rw [e1, e2]; rfl
      have hv1 : valAt hv a i = a.tmps.getD i undef := by simp [valAt, h1, h2]
      rw [hat, hv1]
      exact hr.sl i

/-! ### lists of slots -/
theorem rebF_kinds : ∀ (l : List (Nat × SS)) (ds : List D) (r : RebF), rebF l ds = some r → r.rs.map (·.1) = (l.flatMap fun y => y.2.ids) ∧ r.slots.map (·.1) = l.map (·.1) ∧ ∀ e ∈ r.rs, e.2.isRB = true
  | [], ds, r, h => by
    cases ds <;> simp [rebF] at h
    subst h
    exact ⟨rfl, rfl, by simp⟩
  | (i, s) :: l, ds, r, h => by
    simp only [rebF] at h
    split at h <;> try (cases h; done)
    rename_i r1 h1
    split at h <;> try (cases h; done)
    rename_i r2 h2
    simp only [Option.some.injEq] at h
    subst h
    obtain ⟨k1, k2⟩ := reb_kinds _ _ _ h1
    obtain ⟨k3, k4, k5⟩ := rebF_kinds l _ _ h2
    refine ⟨by simp [k1, k3], by simp [k4], fun e he => ?_⟩
    rcases List.mem_append.1 he with he | he
    · exact k2 e he
    · exact k5 e he

theorem rebF_apart : ∀ (l : List (Nat × SS)) (ds : List D) (r : RebF), (l.any fun y => shared y.2) = false → rebF l ds = some r → ds.map (·.1) = (l.flatMap fun y => y.2.tys) → (∀ e ∈ r.slots, apartSV e.2 = true) ∧ ∀ e ∈ r.rs, apartRg e.2 = true
  | [], ds, r, _, h, _ => by
    cases ds <;> simp [rebF] at h
    subst h
    exact ⟨by simp, by simp⟩
  | (i, s) :: l, ds, r, hs, h, ht => by
    simp only [rebF] at h
    split at h <;> try (cases h; done)
    rename_i r1 h1
    split at h <;> try (cases h; done)
    rename_i r2 h2
    simp only [Option.some.injEq] at h
    subst h
    simp only [List.any_cons, Bool.or_eq_false_iff] at hs
    simp only [List.flatMap_cons] at ht
    obtain ⟨sv1, rs1, rest1⟩ := r1
    obtain ⟨k1, k2, k3⟩ := reb_apart s ds _ _ _ _ hs.1 h1 ht
    obtain ⟨k4, k5⟩ := rebF_apart l _ _ hs.2 h2 k3
    refine ⟨fun e he => ?_, fun e he => ?_⟩
    · rcases List.mem_cons.1 he with rfl | he
      · exact k1
      · exact k4 e he
    · rcases List.mem_append.1 he with he | he
      · exact k2 e he
      · exact k5 e he

theorem slotsOf_spec (old : Nat → SV) (i : Nat) : ∀ (l : List (Nat × SV)), (∃ e ∈ l, e.1 = i ∧ slotsOf l old i = e.2) ∨ (i ∉ l.map (·.1) ∧ slotsOf l old i = old i)
  | [] => .inr ⟨by simp, rfl⟩
  | (k, a) :: l => by
    simp only [slotsOf]
    cases hk : (i == k)
    · have hne : i ≠ k := by simpa using hk
      simp only [cond_false]
      rcases slotsOf_spec old i l with ⟨e, h1, h2, h3⟩ | ⟨h1, h2⟩
      · exact .inl ⟨e, List.mem_cons_of_mem _ h1, h2, h3⟩
      · exact .inr ⟨by simp [hne]; simpa using h1, h2⟩
    · have : i = k := by simpa using hk
      exact .inl ⟨(k, a), by simp, this.symm, rfl⟩

theorem Acc.to_hit {c : Acc} {k : Nat} {m : Nat × Nat × Bool} {d : Nat → Nat} (h : c.mp.find? (fun e => e.1 == k) = some m) : c.to d k = m.2.1 := by simp [Acc.to, h]
theorem Acc.to_miss {c : Acc} {k : Nat} {d : Nat → Nat} (h : c.mp.find? (fun e => e.1 == k) = none) : c.to d k = d k := by simp [Acc.to, h]

theorem behind_sound {n B : Nat} {s : St} {a a' : Act} (hr : Rel n B s a w S hv F) {ids : List Nat} {acc : Acc} {rs : List (Nat × Rg)} {al : Nat → Value} {fl : Nat → Nat → Prop} {R : (Nat → Prop) → (Nat → Value) → Look → Prop}
    (hd : Down w S hv F s.reg s.reg ids ⟨[], []⟩ acc rs al fl R) (hok : acc.ok = true)
    (hc1 : ∀ b, S b → S0 b) (hc2 : ∀ b, S0 b → S b ∨ FL F acc.vw b ∨ ∃ e ∈ acc.mp, F e.2.1 b) (hc3 : ∀ k b, fl k b → ∃ r f, (k, r, f) ∈ acc.mp ∧ F r b) (hc4 : ∀ e ∈ acc.mp, e.1 ∈ ids ∧ (e.2.2 = true → al e.1 = hv e.2.1))
    {F' : Nat → Nat → Prop} {rb : RebF} (he : Ends w S0 al fl (updReg (fun _ => none) rs) w' S' hv' F' (updReg (fun _ => none) rb.rs)) (hos : (rb.rs.map (·.1)).Nodup) (hrb : ∀ e ∈ rb.rs, e.2.isRB = true) {fz : Bool} (hsh : fz = false → (∀ e ∈ rb.slots, apartSV e.2 = true) ∧ ∀ e ∈ rb.rs, apartRg e.2 = true)
    (hsl : ∀ e ∈ rb.slots, e.1 < 1000000 → VR w' S' hv' (updReg (fun _ => none) rb.rs) e.2 (a'.tmps.getD e.1 undef)) {keep : List Nat} {W : List Nat} (hkeep : ∀ i, i ∉ W → a'.tmps.getD i undef = a.tmps.getD i undef) (hkW : ∀ i ∈ keep, i ∉ W) (hdf : Marks w' F' B a'.defers) (hsz : n ≤ a'.tmps.size)
    {s' : St} (hb : behind s keep acc fz rb = some s') : Leads n B W a w S hv F s.reg s' a' w' := by
  unfold behind at hb
  simp only at hb
  split at hb
  · rename_i hchk
    simp only [Option.some.injEq] at hb
    have hchk := Bool.and_eq_true_iff.1 hchk
    have hall : ∀ e ∈ rb.rs, _ := List.all_eq_true.1 hchk.2
    have hnd : (rb.rs.map fun e => acc.to _root_.id e.1).Nodup := by
      have := nodupB_spec hchk.1
      rw [List.map_map] at this
      exact this
    have hren : ∀ e ∈ rb.rs, (∃ m ∈ acc.mp, m.1 = e.1 ∧ acc.to _root_.id e.1 = m.2.1 ∧ m.2.2 = true) ∨ s.reg (acc.to _root_.id e.1) = none := by
      intro e hem
      have hc := hall e hem
      cases hfd : acc.mp.find? (fun m => m.1 == e.1) with
      | some m =>
        rw [hfd] at hc
        have h1 := List.mem_of_find?_eq_some hfd
        have h2 := List.find?_some hfd
        simp at h2
        exact .inl ⟨m, h1, h2, Acc.to_hit hfd, hc⟩
      | none =>
        rw [hfd] at hc
        refine .inr ?_
        rw [Acc.to_miss hfd]
        simp only at hc
        show s.reg e.1 = none
        split at hc
        · assumption
        · cases hc
    obtain ⟨S'', hv'', F'', g'', u1, u2, u3⟩ := up_step hr.inv (fun _ _ h => h) hd hok hc1 hc2 hc3 hc4 he hos hrb (acc.to _root_.id) fz (fun h => (hsh h).2) hren hnd
    have hreg : s'.reg = g'' := by
      rw [← hb, u1]
      rfl
    refine ⟨S'', hv'', fun c b => F'' c b ∧ NM w' b, ⟨by rw [hreg]; exact u2.shrink.inv, fun i => ?_, hdf.other, hsz⟩, by rw [hreg]; exact u2.shrink, hkeep⟩
    rw [hreg]
    have hs' : s'.slot = slotsOf ((rb.slots.filter fun e => Nat.blt e.1 1000000).map fun e => (e.1, e.2.ren (acc.to _root_.id))) (fun i => bif hasN keep i then s.slot i else .dead) := by
      rw [← hb]
    rw [hs']
    rcases slotsOf_spec (fun i => bif hasN keep i then s.slot i else .dead) i ((rb.slots.filter fun e => Nat.blt e.1 1000000).map fun e => (e.1, e.2.ren (acc.to _root_.id))) with ⟨e, h1, h2, h3⟩ | ⟨h1, h2⟩
    · rw [h3]
      obtain ⟨e0, h4, rfl⟩ := List.mem_map.1 h1
      obtain ⟨h5, h6⟩ := List.mem_filter.1 h4
      simp only at h2
      subst h2
      exact VR_by (fun m cs hc => u3 _ m cs (fun hh => (hsh hh).1 _ h5) hc) (hsl e0 h5 (by simpa using h6))
    · rw [h2]
      cases hk : hasN keep i
      · trivial
      · simp only [cond_true]
        rw [hkeep i (hkW i (hasN_iff.1 hk))]
        exact VR_mono u2.ext _ _ (hr.sl i)
  · cases hb
end
end Go.Rf

namespace Go.Rf

def exitOf : Ex → Exit
  | .normal => .normal
  | .exit n => .exit n
  | .ret => .ret

/-- where a loop ends -/
def LoopEnd (n B : Nat) (es : List (Ex × List (Nat × SS))) (y : ExTy es) (W : List Nat) (a : Act) (w : World) (S : Nat → Prop) (hv : Nat → Value) (F : Nat → Nat → Prop) (g : Look) (e : Exit) (a' : Act) (w' : World) : Prop :=
  ∃ ex sh rb, (eject es y).run = some (ex, sh, rb) ∧ e = exitOf ex ∧ (rb.rs.map (·.1)).Nodup ∧ ∃ S' hv' F', Ends w S hv F g w' S' hv' F' (updReg (fun _ => none) rb.rs) ∧
    (∀ e ∈ rb.slots, e.1 < 1000000 → VR w' S' hv' (updReg (fun _ => none) rb.rs) e.2 (a'.tmps.getD e.1 undef)) ∧ (∀ i, i ∉ W → a'.tmps.getD i undef = a.tmps.getD i undef) ∧ Marks w' F' B a'.defers ∧ n ≤ a'.tmps.size

/-- what a loop's code stands for: a range over a function for itself -/
def asCode : Code → Code
  | .rangeFunc g ps x c => .rangeFunc g ps x c
  | c => .loop c

/-- the slots as a round sees them: a range's counter lies at its first parameter -/
def seen (c : Code) (k : Int) (a : Act) (i : Nat) : Value := match c with
  | .rangeFunc _ ps _ _ => if ps[0]? = some i then .int .i64 (k - 1) else a.tmps.getD i undef
  | _ => a.tmps.getD i undef

/-- what is ranged over: a function value over a variable that holds a row of k elements -/
def Ranged (H : Hints) (c : Code) (k : Int) (a : Act) (w : World) : Prop := match c with
  | .rangeFunc (.tmp t) _ _ _ => ∃ (gf E Bs : Nat) (A : Option Addr) (n cap : Nat), H.iter gf = some E ∧ a.tmps.getD t undef = .func (.func gf) #[] #[.pointer (some ⟨Bs, 0, none⟩)] ∧ w.cell? ⟨Bs, 0, none⟩ = some (.slice A n cap) ∧ k = n ∧ n ≤ big
  | .rangeFunc _ _ _ _ => False
  | _ => True

theorem asCode_loop {c : Code} (h : isRange c = false) : asCode c = .loop c := by cases c <;> first | rfl | simp [isRange] at h
theorem seen_loop {c : Code} (h : isRange c = false) (k : Int) (a : Act) (i : Nat) : seen c k a i = a.tmps.getD i undef := by cases c <;> first | rfl | simp [isRange] at h
theorem ranged_loop {H : Hints} {c : Code} (h : isRange c = false) (k : Int) (a : Act) (w : World) : Ranged H c k a w := by cases c <;> first | trivial | simp [isRange] at h

def LoopOk (P : Program) (H : Hints) (key n : Nat) (c : Code) (x : Den (tyOf (hTys (loopOf H key n)))) (y : ExTy (loopOf H key n).exits) : Prop :=
  ∀ h, H.key key = some h → ∃ r, rebF (loopOf H key n).head (unpack (hTys (loopOf H key n)) x) = some r ∧ ((loopOf H key n).head.flatMap fun e => e.2.ids).Nodup ∧
    ∀ (ro : Option Nat), (ro = none ∨ noRange c = true) → ∀ (k : Int) (B : Nat) (a : Act) (w : World) (S : Nat → Prop) (hv : Nat → Value) (F : Nat → Nat → Prop), Inv w S hv F (updReg (fun _ => none) r.rs) → Ranged H c k a w → (∀ e ∈ r.slots, VR w S hv (updReg (fun _ => none) r.rs) e.2 (seen c k a e.1)) → Marks w F B a.defers → h.f.ntmps ≤ a.tmps.size →
      (asCode c).wpIn (Fw ro) 0 P (LoopEnd h.f.ntmps B (loopOf H key n).exits y (writes c) a w S hv F (updReg (fun _ => none) r.rs)) a w

theorem eject_spec : ∀ (es : List (Ex × List (Nat × SS))) (y : ExTy es) (ex : Ex) (sh : Bool) (rb : RebF), (eject es y).run = some (ex, sh, rb) → ∃ e ∈ es, ∃ ds, rebF e.2 ds = some rb ∧ sh = e.2.any (fun y => shared y.2) ∧ ds.map (·.1) = e.2.flatMap fun y => y.2.tys
  | [], y, ex, sh, rb, h => y.elim
  | [e], y, ex, sh, rb, h => by
    simp only [eject] at h
    split at h
    · rename_i r hr
      simp only [M.run, Option.some.injEq, Prod.mk.injEq] at h
      obtain ⟨rfl, rfl, rfl⟩ := h
      exact ⟨e, by simp, _, hr, rfl, unpack_types _ _⟩
    · simp [M.run] at h
  | e :: f :: es, y, ex, sh, rb, h => by
    cases y with
    | inl y =>
      simp only [eject, M.run] at h
      split at h
      · rename_i r hr
        simp only [M.run, Option.some.injEq, Prod.mk.injEq] at h
        obtain ⟨rfl, rfl, rfl⟩ := h
        exact ⟨e, by simp, _, hr, rfl, unpack_types _ _⟩
      · simp [M.run] at h
    | inr y =>
      simp only [eject, M.run] at h
      obtain ⟨e', h1, h2⟩ := eject_spec (f :: es) y ex sh rb h
      exact ⟨e', List.mem_cons_of_mem _ h1, h2⟩

section
variable {ro : Option Nat} {B : Nat} {P : Program} {H : Hints} {w w' : World} {S S' S0 : Nat → Prop} {hv hv' : Nat → Value} {F F' : Nat → Nat → Prop} {g g' gl : Look}

theorem seq_wp {x y : Code} {a : Act} {w : World} {Q : Exit → Act → World → Prop} (h : x.wpIn (Fw ro) 0 P (fun e a' w' => (e = .normal → y.wpIn (Fw ro) 0 P Q a' w') ∧ (e ≠ .normal → Q e a' w')) a w) : (Code.seq x y).wpIn (Fw ro) 0 P Q a w := by
  refine wpIn_seq (wpIn_mono h ?_)
  intro e a' w' hq
  cases e with
  | normal => exact hq.1 rfl
  | _ => exact hq.2 (by simp)

theorem exitOf_normal {x : Ex} : exitOf x = .normal ↔ x = .normal := by cases x <;> simp [exitOf]

theorem block_wp {n : Nat} {c : Code} {a : Act} {w : World} {Q : Exit → Act → World → Prop} {x : Ex} {R : Act → World → Prop} (h : c.wpIn (Fw ro) 0 P (fun e a' w' => e = exitOf x ∧ R a' w') a w) (hQ : ∀ a' w', R a' w' → Q (exitOf (match x with
    | .exit m => if m = n then .normal else .exit m
    | x => x)) a' w') : (Code.block n c).wpIn (Fw ro) 0 P Q a w := by
  refine wpIn_block (wpIn_mono h ?_)
  rintro e a' w' ⟨rfl, hr⟩
  have := hQ a' w' hr
  cases x with
  | normal => exact this
  | ret => exact this
  | exit m =>
    simp only [exitOf, Exit.inBlock] at this ⊢
    by_cases hm : m = n
    · simp only [hm, if_true] at this ⊢
      exact this
    · simp only [hm, if_false] at this ⊢
      exact this

/-- a function value over one variable -/
theorem boxed {gf d : Nat} {fv : Value} {b : SV} {g : Look} (hI : Inv w S hv F g) (hv0 : VR w S hv g (.clo gf (.tup (.ptr d []) .unit)) fv) (hb : g d = some (.box b)) :
    ∃ (bl : Nat) (arr : Array Value) (T : Nat), fv = .func (.func gf) #[] #[.pointer (some ⟨bl, 0, none⟩)] ∧ w.heap[bl]? = some (.cells arr T (0, 0)) ∧ CRep w S hv g false b arr.toList := by
  rw [VR_cell rfl] at hv0
  simp only [CRep] at hv0
  obtain ⟨ps', e1, p, r, e2, e3, e4⟩ := hv0
  subst e4
  have hg := hI.rep _ _ hb
  simp only [GRep] at hg
  obtain ⟨bl, arr, T, g1, g2, g3, g4⟩ := hg
  have hp : p = .pointer (some ⟨bl, 0, none⟩) := by
    rcases e3 with e3 | ⟨e3, _⟩ | ⟨_, e3⟩
    · simp [SV.isDead] at e3
    · simp [SV.isSt] at e3
    · simp only [CRep, List.cons.injEq, and_true] at e3
      rw [e3.2.1, g1]
      simp [adr, pathOff]
  simp only [List.cons.injEq, and_true] at e1
  exact ⟨bl, arr, T, by rw [e1, e2, hp], g2, g4⟩

theorem boxed_cell {bl T : Nat} {arr : Array Value} {v : Value} (h : w.heap[bl]? = some (.cells arr T (0, 0))) (ha : arr.toList = [v]) : w.cell? ⟨bl, 0, none⟩ = some v := by
  have : arr[0]? = some v := by
    rw [← Array.getElem?_toList, ha]; rfl
  simp only [World.cell?, h]
  rw [this]
  rfl

theorem rangeLen_sound (hf : Fit P H) {n : Nat} {s : St} {a : Act} (hr : Rel n B s a w S hv F) {t : Nat} {k : Int} (h : rangeLen H s t = some k) (ps : Array Tmp) (x c : Code) : Ranged H (.rangeFunc (.tmp t) ps x c) k a w ∧ 0 ≤ k ∧ k ≤ IntKind.i64.max := by
  unfold rangeLen at h
  split at h
  · rename_i gf d hs
    split at h
    · rename_i E b hE hb
      have hv0 := hr.sl t
      rw [hs] at hv0
      obtain ⟨bl, arr, T, g1, g2, g4⟩ := boxed hr.inv hv0 hb
      -- the box holds one value
      have hcell : b.ag = some (false, 1) ∨ b = .nilv := by
        cases b <;> simp [lenOf] at h <;> first | exact .inr rfl | (left; rfl) | skip
        rename_i t' x'
        cases t' <;> simp at h
        left; rfl
      have hcell : b.ag = some (false, 1) := by
        rcases hcell with h | rfl
        · exact h
        · rfl
      have hlen := CRep_length _ _ g4
      have hsz : b.size = 1 := by
        obtain ⟨_, h2, _⟩ := ag_spec hcell
        exact h2.symm
      rw [hsz] at hlen
      obtain ⟨v, hv1⟩ : ∃ v, arr.toList = [v] := by
        match hal : arr.toList, hlen with
        | [v], _ => exact ⟨v, rfl⟩
      rw [hv1] at g4
      have hVR : VR w S hv s.reg b v := VR_of_cells hcell (.inr ⟨rfl, rfl⟩) g4
      obtain ⟨A, m, cap, k1, k2⟩ := lenOf_sound hr.inv (fun _ _ h => h) hVR h
      have k3 := lenOf_big hr.inv (fun _ _ h => h) hVR h
      subst k2
      have hmx : IntKind.i64.max = 9223372036854775807 := by decide
      exact ⟨⟨gf, E, bl, A, m, cap, hE, g1, by rw [boxed_cell g2 hv1, k1], rfl, by unfold big; omega⟩, by omega, k3.2⟩
    · cases h
  · cases h

theorem ev_block {key : Nat} {h : FnH} {p : Fns H} {n : Nat} {c : Code} {s : St} (hc : ∀ c', c ≠ .loop c') (hc2 : ∀ t ps x c', c ≠ .rangeFunc (.tmp t) ps x c') : ev H key h p (.block n c) s = (ev H key h p c s).bind fun z =>
    (match z.1 with
    | .exit m => .ret (if m = n then .normal else .exit m, z.2)
    | x => .ret (x, z.2)) := by
  cases c with
  | loop c' => exact absurd rfl (hc _)
  | rangeFunc g ps x c' => cases g <;> first | rfl | exact absurd rfl (hc2 _ _ _ _)
  | _ => rfl

theorem ev_sound (hf : Fit P H) {p : Fns H} (hp : ∀ key x y, p.call key x = some y → CallOk P H key x y) (hlp : ∀ key n c x y, p.loop key n c x = some y → LoopOk P H key n c x y) {key : Nat} {h : FnH} (hk : H.key key = some h) :
    ∀ (c : Code) {s : St} {a : Act} {w : World} {S : Nat → Prop} {hv : Nat → Value} {F : Nat → Nat → Prop} {x : Ex} {s' : St}, (ro = none ∨ noRange c = true) → Rel h.f.ntmps B s a w S hv F → (ev H key h p c s).run = some (x, s') →
      c.wpIn (Fw ro) 0 P (fun e a' w' => e = exitOf x ∧ Leads h.f.ntmps B (writes c) a w S hv F s.reg s' a' w') a w := by
  intro c
  induction c with
  | skip =>
    intro s a w S hv F x s' hnr hr he
    simp only [ev, M.run, Option.some.injEq, Prod.mk.injEq] at he
    obtain ⟨rfl, rfl⟩ := he
    exact wpIn_skip ⟨rfl, Leads.refl hr⟩
  | ret =>
    intro s a w S hv F x s' hnr hr he
    simp only [ev, M.run, Option.some.injEq, Prod.mk.injEq] at he
    obtain ⟨rfl, rfl⟩ := he
    exact wpIn_ret ⟨rfl, Leads.refl hr⟩
  | exit n =>
    intro s a w S hv F x s' hnr hr he
    simp only [ev, M.run, Option.some.injEq, Prod.mk.injEq] at he
    obtain ⟨rfl, rfl⟩ := he
    exact wpIn_exit ⟨rfl, Leads.refl hr⟩
  | region id ops draw =>
    intro s a w S hv F x s' hnr hr he
    simp only [ev] at he
    rw [M.run_bind] at he
    obtain ⟨⟨s1, ts⟩, h1, he⟩ := Option.bind_eq_some_iff.1 he
    split at he
    · rename_i hd
      simp only [M.run, Option.some.injEq, Prod.mk.injEq] at he
      obtain ⟨rfl, rfl⟩ := he
      refine region_sound hf hp hr h1 hd (W := writes (.region id ops draw)) (fun o ho k hk => ?_) fun a' w' hl => ⟨rfl, hl⟩
      simp only [writes]
      exact List.mem_filterMap.2 ⟨o, ho, hk⟩
    · simp [M.run] at he
  | seq c1 c2 ih1 ih2 =>
    intro s a w S hv F x s' hnr hr he
    simp only [ev] at he
    rw [M.run_bind] at he
    obtain ⟨⟨x1, s1⟩, h1, he⟩ := Option.bind_eq_some_iff.1 he
    have hn1 : ro = none ∨ noRange c1 = true := hnr.imp id fun h => by simp only [noRange, Bool.and_eq_true] at h; exact h.1
    have hn2 : ro = none ∨ noRange c2 = true := hnr.imp id fun h => by simp only [noRange, Bool.and_eq_true] at h; exact h.2
    refine seq_wp (wpIn_mono (ih1 hn1 hr h1) ?_)
    rintro e a1 w1 ⟨rfl, hl⟩
    cases x1 with
    | normal =>
      simp only at he
      refine ⟨fun _ => ?_, fun hne => absurd rfl hne⟩
      obtain ⟨S1, hv1, F1, q1, q2, q3⟩ := hl
      refine wpIn_mono (ih2 hn2 q1 he) ?_
      rintro e a2 w2 ⟨rfl, S2, hv2, F2, q4, q5, q6⟩
      refine ⟨rfl, S2, hv2, F2, q4, q2.trans q5, fun i hi => ?_⟩
      simp only [writes, List.mem_append, not_or] at hi
      rw [q6 i hi.2, q3 i hi.1]
    | ret =>
      simp only [M.run, Option.some.injEq, Prod.mk.injEq] at he
      obtain ⟨rfl, rfl⟩ := he
      refine ⟨fun h => (by cases h), fun _ => ⟨rfl, hl.mono fun i hi => ?_⟩⟩
      simp only [writes]
      exact List.mem_append_left _ hi
    | exit m =>
      simp only [M.run, Option.some.injEq, Prod.mk.injEq] at he
      obtain ⟨rfl, rfl⟩ := he
      refine ⟨fun h => (by cases h), fun _ => ⟨rfl, hl.mono fun i hi => ?_⟩⟩
      simp only [writes]
      exact List.mem_append_left _ hi
  | cond cc c1 c2 ih1 ih2 =>
    intro s a w S hv F x s' hnr hr he
    simp only [ev] at he
    split at he
    · rename_i b hb
      have hv0 := opnd_VR hr cc
      rw [hb, VR_bool] at hv0
      simp only [M.run] at he
      cases b with
      | true =>
        simp only [cond_true] at he
        refine wpIn_cond_true hv0 (wpIn_mono (ih1 (hnr.imp id fun h => by simp only [noRange, Bool.and_eq_true] at h; exact h.1) hr he) ?_)
        rintro e a' w' ⟨rfl, hl⟩
        exact ⟨rfl, hl.mono fun i hi => List.mem_append_left _ hi⟩
      | false =>
        simp only [cond_false] at he
        refine wpIn_cond_false hv0 (wpIn_mono (ih2 (hnr.imp id fun h => by simp only [noRange, Bool.and_eq_true] at h; exact h.2) hr he) ?_)
        rintro e a' w' ⟨rfl, hl⟩
        exact ⟨rfl, hl.mono fun i hi => List.mem_append_right _ hi⟩
    · simp [M.run] at he
  | block n c ih =>
    intro s a w S hv F x s' hnr hr he
    by_cases hloop : ∃ c', c = .loop c'
    · obtain ⟨c', rfl⟩ := hloop
      simp only [ev] at he
      rw [M.run_bind] at he
      obtain ⟨⟨ds, acc⟩, h1, he⟩ := Option.bind_eq_some_iff.1 he
      split at he
      · rename_i xin hchk hpk
        have hchk := Bool.and_eq_true_iff.1 hchk
        have hrg : isRange c' = false := by simpa using hchk.2
        have hchk := Bool.and_eq_true_iff.1 hchk.1
        rw [M.run_bind] at he
        obtain ⟨⟨x1, s1⟩, hj, he⟩ := Option.bind_eq_some_iff.1 he
        simp only [join, M.run] at hj
        obtain ⟨y, hy, hj⟩ := Option.bind_eq_some_iff.1 hj
        rw [M.run_bind] at hj
        obtain ⟨⟨ex, sh, rb⟩, hej, hj⟩ := Option.bind_eq_some_iff.1 hj
        simp only at hj
        split at hj
        · rename_i s1' hbh
          simp only [M.run, Option.some.injEq, Prod.mk.injEq] at hj
          obtain ⟨rfl, rfl⟩ := hj
          obtain ⟨r, k1, k2, k3⟩ := hlp key n c' xin y hy h hk
          obtain ⟨S1, hv1, F1, q1, q2, q3⟩ := hr.settle ((loopOf H key n).head.map fun y => s.slot y.1)
          have hun := unpack_pack _ _ _ hpk
          rw [hun] at k1
          obtain ⟨sl, rs, al, fl, m1, m2, m3⟩ := extF_down (val := fun i => a.tmps.getD i undef) q1.inv (fun _ _ h => h) _ _ _ _ h1 k2 (fun y _ _ _ => q1.sl y.1)
          rw [k1] at m1
          simp only [Option.some.injEq] at m1
          subst m1
          obtain ⟨S0, c1, c2, c3, c4, c5, c6⟩ := coerce q1.inv m3 k2 hchk.1
          have hloopwp := k3 ro (hnr.imp id fun h => by simpa only [noRange] using h) 0 B a w S0 al fl c1 (ranged_loop hrg 0 a w) (fun e he => by rw [seen_loop hrg]; exact c2 e he) (q1.df.sub fun c b hb => by obtain ⟨r, f, _, h⟩ := c5 c b hb; exact ⟨r, h⟩) hr.sz
          rw [asCode_loop hrg] at hloopwp
          refine block_wp (x := ex) (R := fun a' w' => Leads h.f.ntmps B (writes (.block n (.loop c'))) a w S hv F s.reg s1' a' w') (wpIn_mono hloopwp ?_) ?_
          · rintro e a' w' ⟨ex2, sh2, rb2, e1, rfl, e2, S2, hv2, F2, e3, e4, e5, e6, e7⟩
            rw [hej] at e1
            simp only [Option.some.injEq, Prod.mk.injEq] at e1
            obtain ⟨rfl, rfl, rfl⟩ := e1
            refine ⟨rfl, ?_⟩
            obtain ⟨ee, u1, ds2, u2, u3, u4⟩ := eject_spec _ _ _ _ _ hej
            obtain ⟨u5, u6, u7⟩ := rebF_kinds _ _ _ u2
            obtain ⟨S3, hv3, F3, t1, t2, t3⟩ := behind_sound q1 m3 hchk.1 c3 c4 c5 c6 e3 e2 u7 (fz := sh) (fun hs => rebF_apart _ _ _ (by rw [← u3]; exact hs) u2 u4) e4 (keep := (loopOf H key n).keep) (W := writes c') e5 (fun i hi => by
              have := List.all_eq_true.1 hchk.2 i hi
              exact not_hasN.1 this) e6 e7 hbh
            exact ⟨S3, hv3, F3, t1, q2.trans t2, fun i hi => t3 i hi⟩
          · intro a' w' hl
            cases ex with
            | exit m =>
              simp only [M.run, Option.some.injEq, Prod.mk.injEq] at he
              obtain ⟨rfl, rfl⟩ := he
              exact ⟨rfl, hl⟩
            | normal =>
              simp only [M.run, Option.some.injEq, Prod.mk.injEq] at he
              obtain ⟨rfl, rfl⟩ := he
              exact ⟨rfl, hl⟩
            | ret =>
              simp only [M.run, Option.some.injEq, Prod.mk.injEq] at he
              obtain ⟨rfl, rfl⟩ := he
              exact ⟨rfl, hl⟩
        · simp [M.run] at hj
      · simp [M.run] at he
    · by_cases hrange : ∃ t ps xx c', c = .rangeFunc (.tmp t) ps xx c'
      · obtain ⟨t, ps, xx, c', rfl⟩ := hrange
        have hro : ro = none := hnr.resolve_right (by simp [noRange])
        simp only [ev] at he
        split at he
        · rename_i k q q2 hlen hps
          obtain ⟨S1, hv1, F1, q1, q2', q3⟩ := hr.settle ((loopOf H key n).head.map fun y => s.slot y.1)
          obtain ⟨hran, hk0, hk1⟩ := rangeLen_sound hf q1 hlen ps xx c'
          have hps0 : ps[0]? = some q := by rw [← Array.getElem?_toList, hps]; rfl
          have hseen : ∀ i, VR w S1 hv1 (s.settle ((loopOf H key n).head.map fun y => s.slot y.1)).reg (counted q (k - 1) (s.settle ((loopOf H key n).head.map fun y => s.slot y.1)).slot i) (seen (.rangeFunc (.tmp t) ps xx c') k a i) := by
            intro i
            unfold counted seen
            by_cases hi : q = i
            · subst hi
              simp only [hps0, if_true, beq_self_eq_true, cond_true]
              have e1 : IntKind.i64.min = -9223372036854775808 := by decide
              exact VR_int.2 ⟨rfl, by omega, by omega⟩
            · have h1 : (i == q) = false := by simpa using fun h => hi h.symm
              simp only [hps0, h1, cond_false, Option.some.injEq, if_neg hi]
              exact q1.sl i
          rw [M.run_bind] at he
          obtain ⟨⟨ds, acc⟩, h1, he⟩ := Option.bind_eq_some_iff.1 he
          split at he
          · rename_i xin hchk hpk
            rw [M.run_bind] at he
            obtain ⟨⟨x1, s1⟩, hj, he⟩ := Option.bind_eq_some_iff.1 he
            simp only [join, M.run] at hj
            obtain ⟨y, hy, hj⟩ := Option.bind_eq_some_iff.1 hj
            rw [M.run_bind] at hj
            obtain ⟨⟨ex, sh, rb⟩, hej, hj⟩ := Option.bind_eq_some_iff.1 hj
            simp only at hj
            split at hj
            · rename_i s1' hbh
              simp only [M.run, Option.some.injEq, Prod.mk.injEq] at hj
              obtain ⟨rfl, rfl⟩ := hj
              obtain ⟨r, k1, k2, k3⟩ := hlp key n (.rangeFunc (.tmp t) ps xx c') xin y hy h hk
              have hun := unpack_pack _ _ _ hpk
              rw [hun] at k1
              obtain ⟨sl, rs, al, fl, m1, m2, m3⟩ := extF_down (val := seen (.rangeFunc (.tmp t) ps xx c') k a) q1.inv (fun _ _ h => h) _ _ _ _ h1 k2 (fun y _ _ _ => hseen y.1)
              rw [k1] at m1
              simp only [Option.some.injEq] at m1
              subst m1
              obtain ⟨S0, c1, c2, c3, c4, c5, c6⟩ := coerce q1.inv m3 k2 hchk
              have hloopwp := k3 ro (.inl hro) k B a w S0 al fl c1 hran c2 (q1.df.sub fun c b hb => by obtain ⟨r, f, _, h⟩ := c5 c b hb; exact ⟨r, h⟩) hr.sz
              refine block_wp (x := ex) (R := fun a' w' => Leads h.f.ntmps B (writes (.block n (.rangeFunc (.tmp t) ps xx c'))) a w S hv F s.reg s1' a' w') (wpIn_mono hloopwp ?_) ?_
              · rintro e a' w' ⟨ex2, sh2, rb2, e1, rfl, e2, S2, hv2, F2, e3, e4, e5, e6, e7⟩
                rw [hej] at e1
                simp only [Option.some.injEq, Prod.mk.injEq] at e1
                obtain ⟨rfl, rfl, rfl⟩ := e1
                refine ⟨rfl, ?_⟩
                obtain ⟨ee, u1, ds2, u2, u3, u4⟩ := eject_spec _ _ _ _ _ hej
                obtain ⟨u5, u6, u7⟩ := rebF_kinds _ _ _ u2
                obtain ⟨S3, hv3, F3, t1, t2, t3⟩ := behind_sound q1 m3 hchk c3 c4 c5 c6 e3 e2 u7 (fz := sh) (fun hs => rebF_apart _ _ _ (by rw [← u3]; exact hs) u2 u4) e4 (keep := (loopOf H key n).keep) (W := []) e5 (fun i hi => by simp) e6 e7 hbh
                exact ⟨S3, hv3, F3, t1, q2'.trans t2, fun i hi => t3 i hi⟩
              · intro a' w' hl
                cases ex with
                | exit m =>
                  simp only [M.run, Option.some.injEq, Prod.mk.injEq] at he
                  obtain ⟨rfl, rfl⟩ := he
                  exact ⟨rfl, hl⟩
                | normal =>
                  simp only [M.run, Option.some.injEq, Prod.mk.injEq] at he
                  obtain ⟨rfl, rfl⟩ := he
                  exact ⟨rfl, hl⟩
                | ret =>
                  simp only [M.run, Option.some.injEq, Prod.mk.injEq] at he
                  obtain ⟨rfl, rfl⟩ := he
                  exact ⟨rfl, hl⟩
            · simp [M.run] at hj
          · simp [M.run] at he
        · simp [M.run] at he
      · rw [ev_block (fun c' hc => hloop ⟨c', hc⟩) (fun t ps x c' hc => hrange ⟨t, ps, x, c', hc⟩), M.run_bind] at he
        obtain ⟨⟨x1, s1⟩, h1, he⟩ := Option.bind_eq_some_iff.1 he
        refine block_wp (x := x1) (R := fun a' w' => Leads h.f.ntmps B (writes (.block n c)) a w S hv F s.reg s1 a' w') (ih (hnr.imp id fun h => by simpa only [noRange] using h) hr h1) ?_
        intro a' w' hl
        cases x1 with
        | exit m =>
          simp only [M.run, Option.some.injEq, Prod.mk.injEq] at he
          obtain ⟨rfl, rfl⟩ := he
          exact ⟨rfl, hl⟩
        | normal =>
          simp only [M.run, Option.some.injEq, Prod.mk.injEq] at he
          obtain ⟨rfl, rfl⟩ := he
          exact ⟨rfl, hl⟩
        | ret =>
          simp only [M.run, Option.some.injEq, Prod.mk.injEq] at he
          obtain ⟨rfl, rfl⟩ := he
          exact ⟨rfl, hl⟩
  | _ => intros; rename_i he; simp [ev, M.run] at he
end
end Go.Rf

namespace Go.Rf

theorem wp_loop_fuel {P : Program} {fe : Fence} {m : Nat} {c : Code} {Q : Exit → Act → World → Prop} (I : Nat → Act → World → Prop) (round : ∀ k a w, I k a w → c.wpIn fe m P (Exit.then (fun a' w' => ∃ k', k' < k ∧ I k' a' w') Q) a w) : ∀ (k : Nat) (a : Act) (w : World), I k a w → (Code.loop c).wpIn fe m P Q a w := by
  intro k a w h0 b ks cs hro hb hr
  have key : ∀ n a w, I n a w → ∃ e a' w', Q e a' w' ∧ ArrivesIn (Machine.fenced P fe) P (lone (b.atR a (.code c :: .inLoop c :: ks)) cs w) b ks cs e a' w' := by
    intro n
    induction n using Nat.strongRecOn with
    | _ n ih =>
      intro a w hI
      obtain ⟨e, a₁, w₁, hq, harr⟩ := round n a w hI b (.inLoop c :: ks) cs hro hb hr
      cases e with
      | normal =>
        obtain ⟨k', hlt, hI₁⟩ := hq
        obtain ⟨e₂, a₂, w₂, hq₂, harr₂⟩ := ih k' hlt a₁ w₁ hI₁
        exact ⟨e₂, a₂, w₂, hq₂, .of_steps (StepsIn.trans harr (.one (fenced_calm hb hr rfl) stepR_inLoop)) harr₂⟩
      | exit id => exact ⟨_, a₁, w₁, hq, .pass (x := .inLoop c) rfl (fun _ _ => .inl (by simp)) harr⟩
      | goto l => exact ⟨_, a₁, w₁, hq, .pass (x := .inLoop c) rfl (fun _ _ => .inl (by simp)) harr⟩
      | ret => exact ⟨_, a₁, w₁, hq, .pass (x := .inLoop c) rfl (fun _ _ => .inl (by simp)) harr⟩
      | panic ch => exact ⟨_, a₁, w₁, hq, .pass (x := .inLoop c) rfl (fun _ _ => .inl (by simp)) harr⟩
      | outgrown => exact ⟨_, a₁, w₁, hq, .pass (x := .inLoop c) rfl (fun _ _ => .inl (by simp)) harr⟩
  obtain ⟨e, a', w', hq, harr⟩ := key k a w h0
  exact ⟨e, a', w', hq, .of_steps (.one (fenced_calm hb hr rfl) stepR_loop) harr⟩

section
variable {B : Nat} {P : Program} {H : Hints} {w w' : World} {S S' S0 : Nat → Prop} {hv hv' : Nat → Value} {F F' : Nat → Nat → Prop} {g g' gl : Look}

/-- as Ends, over the headers of J -/
structure Ends0 (J : Nat → Prop) (w : World) (S : Nat → Prop) (hv : Nat → Value) (F : Nat → Nat → Prop) (w' : World) (S' : Nat → Prop) (hv' : Nat → Value) (F' : Nat → Nat → Prop) (g' : Look) : Prop where
  inv : Inv w' S' hv' F' g'
  sub : ∀ b, S b → S' b
  hv : ∀ c, J c → hv' c = hv c
  bS : ∀ b, S' b → S b ∨ (∃ c, F c b) ∨ w.heap.size ≤ b
  bF : ∀ c b, F' c b → (∃ c', F c' b) ∨ w.heap.size ≤ b
  fr : ∀ b, b < w.heap.size → (∀ c, ¬ F c b) → w'.heap[b]? = w.heap[b]?
  sz : w.heap.size ≤ w'.heap.size
  st : Still w w'

theorem Ends0.trans {J : Nat → Prop} {w1 w2 : World} {S1 S2 : Nat → Prop} {hv1 hv2 : Nat → Value} {F1 F2 : Nat → Nat → Prop} {g1 g2 : Look} (h : Ends0 J w S hv F w1 S1 hv1 F1 g1) (h' : Ends0 J w1 S1 hv1 F1 w2 S2 hv2 F2 g2) : Ends0 J w S hv F w2 S2 hv2 F2 g2 where
  inv := h'.inv
  sub := fun b hb => h'.sub b (h.sub b hb)
  hv := fun c hc => by rw [h'.hv c hc, h.hv c hc]
  bS := fun b hb => by
    rcases h'.bS b hb with hb | ⟨c, hb⟩ | hb
    · exact h.bS b hb
    · rcases h.bF c b hb with hb | hb
      · exact .inr (.inl hb)
      · exact .inr (.inr hb)
    · exact .inr (.inr (Nat.le_trans h.sz hb))
  bF := fun c b hb => by
    rcases h'.bF c b hb with ⟨c', hb⟩ | hb
    · exact h.bF c' b hb
    · exact .inr (Nat.le_trans h.sz hb)
  fr := fun b hb hn => by
    rw [h'.fr b (Nat.lt_of_lt_of_le hb h.sz) (fun c hc => ?_), h.fr b hb hn]
    rcases h.bF c b hc with ⟨c', hc'⟩ | hge
    · exact hn c' hc'
    · omega
  sz := Nat.le_trans h.sz h'.sz
  st := h.st.trans h'.st

theorem Ends0.refl {J : Nat → Prop} (hI : Inv w S hv F g) : Ends0 J w S hv F w S hv F g := ⟨hI, fun _ h => h, fun _ _ => rfl, fun _ h => .inl h, fun c _ h => .inl ⟨c, h⟩, fun _ _ _ => rfl, Nat.le_refl _, ⟨rfl, rfl, rfl, Nat.le_refl _⟩⟩

theorem Ends.weak {J : Nat → Prop} (h : Ends w S hv F g w' S' hv' F' g') (hJ : ∀ c, J c → g c ≠ none ∧ g' c ≠ none) : Ends0 J w S hv F w' S' hv' F' g' :=
  ⟨h.inv, h.sub, fun c hc => h.hv c (hJ c hc).1 (hJ c hc).2, h.bS, h.bF, h.fr, h.sz, h.st⟩

theorem Ends0.strong {J : Nat → Prop} (h : Ends0 J w S hv F w' S' hv' F' g') (hJ : ∀ c, g c ≠ none → g' c ≠ none → J c) : Ends w S hv F g w' S' hv' F' g' :=
  ⟨h.inv, h.sub, fun c h1 h2 => h.hv c (hJ c h1 h2), h.bS, h.bF, h.fr, h.sz, h.st⟩

theorem Ends0.then {J : Nat → Prop} {w1 w2 : World} {S1 S2 : Nat → Prop} {hv1 hv2 : Nat → Value} {F1 F2 : Nat → Nat → Prop} {g1 g2 : Look} (h : Ends0 J w S hv F w1 S1 hv1 F1 g1) (h' : Ends w1 S1 hv1 F1 g1 w2 S2 hv2 F2 g2) (hJ : ∀ c, g c ≠ none → g2 c ≠ none → J c ∧ g1 c ≠ none) : Ends w S hv F g w2 S2 hv2 F2 g2 where
  inv := h'.inv
  sub := fun b hb => h'.sub b (h.sub b hb)
  hv := fun c h1 h2 => by rw [h'.hv c (hJ c h1 h2).2 h2, h.hv c (hJ c h1 h2).1]
  bS := fun b hb => by
    rcases h'.bS b hb with hb | ⟨c, hb⟩ | hb
    · exact h.bS b hb
    · rcases h.bF c b hb with hb | hb
      · exact .inr (.inl hb)
      · exact .inr (.inr hb)
    · exact .inr (.inr (Nat.le_trans h.sz hb))
  bF := fun c b hb => by
    rcases h'.bF c b hb with ⟨c', hb⟩ | hb
    · exact h.bF c' b hb
    · exact .inr (Nat.le_trans h.sz hb)
  fr := fun b hb hn => by
    rw [h'.fr b (Nat.lt_of_lt_of_le hb h.sz) (fun c hc => ?_), h.fr b hb hn]
    rcases h.bF c b hc with ⟨c', hc'⟩ | hge
    · exact hn c' hc'
    · omega
  sz := Nat.le_trans h.sz h'.sz
  st := h.st.trans h'.st

/-- a round's end, taken out for the next -/
theorem ends0_of {J : Nat → Prop} {w1 : World} {S1 : Nat → Prop} {hv1 : Nat → Value} {F1 : Nat → Nat → Prop} {g1 gl1 : Look} (h : Step' w S hv F g w1 S1 hv1 F1 g1) {outs : List Nat} {acc : Acc} {rs : List (Nat × Rg)} {al : Nat → Value} {fl : Nat → Nat → Prop} {R : (Nat → Prop) → (Nat → Value) → Look → Prop}
    (hd : Down w1 S1 hv1 F1 g1 gl1 outs ⟨[], []⟩ acc rs al fl R) (hok : acc.ok = true) (hnd : outs.Nodup) (hJ : ∀ k, J k → g k ≠ none ∧ (k, k, true) ∈ acc.mp) :
    ∃ S2, Ends0 J w S hv F w1 S2 al fl (updReg (fun _ => none) rs) ∧ R S2 al (updReg (fun _ => none) rs) := by
  obtain ⟨S2, k1, k2, k3, k4, k5, k6⟩ := coerce h.inv hd hnd hok
  refine ⟨S2, ⟨k1, fun b hb => k3 b (h.ext.sub b hb), fun c hc => ?_, fun b hb => ?_, fun c b hb => ?_, h.fr, h.sz, h.st⟩, k2⟩
  · obtain ⟨h1, h2⟩ := hJ c hc
    have := (k6 _ h2).2 rfl
    simp only at this
    rw [this, h.ext.hv c h1]
  · rcases k4 b hb with hb | ⟨k, _, hb⟩ | ⟨e, _, hb⟩
    · exact h.bS b hb
    · rcases h.bF _ b hb with hb | hb
      · exact .inr (.inl hb)
      · exact .inr (.inr hb)
    · rcases h.bF _ b hb with hb | hb
      · exact .inr (.inl hb)
      · exact .inr (.inr hb)
  · obtain ⟨r, f, _, hb⟩ := k5 c b hb
    exact h.bF _ b hb

theorem inject0_spec {ids : List Nat} {x : Ex} {s : St} : ∀ (es : List (Ex × List (Nat × SS))) (y : ExTy es), (inject0 ids es x s).run = some y → ∃ e ∈ es, x = e.1 ∧ ∃ ds acc, (extF s.reg s.at e.2 ⟨[], []⟩).run = some (ds, acc) ∧ acc.ok = true ∧ placeOk ids (e.2.flatMap fun y => y.2.ids) acc = true ∧ atOk e.2 = true ∧
      ∀ rb, rebF e.2 ds = some rb → (eject es y).run = some (x, e.2.any (fun y => shared y.2), rb)
  | [], y, h => y.elim
  | [e], y, h => by
    simp only [inject0] at h
    split at h
    · rename_i hx
      have hx := of_decide_eq_true hx
      rw [M.run_bind] at h
      obtain ⟨⟨ds, acc⟩, h1, h⟩ := Option.bind_eq_some_iff.1 h
      split at h
      · rename_i z hc hpk
        simp only [Bool.and_eq_true] at hc
        have h : y = z := (Option.some.inj h).symm
        subst h
        refine ⟨e, by simp, hx, ds, acc, h1, hc.1.1, hc.1.2, hc.2, fun rb hrb => ?_⟩
        have hun := unpack_pack _ _ _ hpk
        simp only [eject, hun, hrb, M.run, hx]
      · simp [M.run] at h
    · simp [M.run] at h
  | e :: f :: es, y, h => by
    simp only [inject0] at h
    split at h
    · rename_i hx
      have hx := of_decide_eq_true hx
      rw [M.run_bind] at h
      obtain ⟨⟨ds, acc⟩, h1, h⟩ := Option.bind_eq_some_iff.1 h
      split at h
      · rename_i z hc hpk
        simp only [Bool.and_eq_true] at hc
        have h : y = Sum.inl z := (Option.some.inj h).symm
        subst h
        refine ⟨e, by simp, hx, ds, acc, h1, hc.1.1, hc.1.2, hc.2, fun rb hrb => ?_⟩
        have hun := unpack_pack _ _ _ hpk
        simp only [eject, M.run, hun, hrb, hx]
      · simp [M.run] at h
    · rw [M.run_bind] at h
      obtain ⟨z, h1, h⟩ := Option.bind_eq_some_iff.1 h
      have h : y = Sum.inr z := (Option.some.inj h).symm
      subst h
      obtain ⟨e', k1, k2, ds, acc, k3, k4, k5, k6, k7⟩ := inject0_spec (f :: es) z h1
      refine ⟨e', List.mem_cons_of_mem _ k1, k2, ds, acc, k3, k4, k5, k6, fun rb hrb => ?_⟩
      simp only [eject, M.run]
      exact k7 rb hrb

theorem newFrame_rel {n : Nat} {r : RebF} {a : Act} (hI : Inv w S hv F (updReg (fun _ => none) r.rs)) (hsl : ∀ e ∈ r.slots, VR w S hv (updReg (fun _ => none) r.rs) e.2 (a.tmps.getD e.1 undef)) (hdf : Marks w F B a.defers) (hsz : n ≤ a.tmps.size) : Rel n B (newFrame r) a w S hv F := by
  refine ⟨hI, fun i => ?_, hdf, hsz⟩
  show VR w S hv (updReg (fun _ => none) r.rs) (slotsOf r.slots (fun _ => .dead) i) _
  rcases slotsOf_spec (fun _ => .dead) i r.slots with ⟨e, h1, h2, h3⟩ | ⟨_, h2⟩
  · rw [h3]
    subst h2
    exact hsl e h1
  · rw [h2]
    trivial

def headIds (l : LoopH) : List Nat := l.head.flatMap fun e => e.2.ids
def inPlace (l : LoopH) (k : Nat) : Prop := k ∈ headIds l ∧ ∃ e ∈ l.exits, ∃ y ∈ e.2, k ∈ y.2.ids

theorem backOk_spec {l : LoopH} {c : Acc} (h : backOk l c = true) : ∀ k, inPlace l k → (k, k, true) ∈ c.mp := by
  rintro k ⟨hk, e, he, y, hy, hky⟩
  unfold backOk at h
  have h1 := List.all_eq_true.1 h k hk
  rcases Bool.or_eq_true_iff.1 h1 with h2 | h2
  · exfalso
    rw [Bool.not_eq_true', ← Bool.not_eq_true] at h2
    refine h2 (List.any_eq_true.2 ⟨e, he, List.any_eq_true.2 ⟨y, hy, hasN_iff.2 hky⟩⟩)
  · obtain ⟨⟨m1, m2, m3⟩, hm, he2⟩ := List.any_eq_true.1 h2
    simp only [Bool.and_eq_true, beq_iff_eq] at he2
    obtain ⟨rfl, rfl, rfl⟩ := he2
    exact hm

theorem reg_head {l : LoopH} {ds : List D} {r : RebF} (h : rebF l.head ds = some r) : ∀ c, updReg (fun _ => none) r.rs c ≠ none ↔ c ∈ headIds l := by
  intro c
  obtain ⟨k1, _, _⟩ := rebF_kinds _ _ _ h
  unfold headIds
  rw [← k1]
  constructor
  · intro hc
    obtain ⟨q, hq⟩ := Option.ne_none_iff_exists'.1 hc
    rcases updReg_some hq with h | ⟨_, h⟩
    · exact List.mem_map.2 ⟨_, h, rfl⟩
    · cases h
  · intro hc
    obtain ⟨q, _, hq⟩ := updReg_hit (g := fun _ => none) hc
    rw [hq]; simp

/-- a round's way out of its loop -/
theorem inject_end {n : Nat} {l : LoopH} {r r1 : RebF} {ds0 ds1 : List D} (hr : rebF l.head ds0 = some r) (hr1 : rebF l.head ds1 = some r1) {y : ExTy l.exits} {w1 w2 : World} {S1 S2 : Nat → Prop} {hv1 hv2 : Nat → Value} {F1 F2 : Nat → Nat → Prop} {s2 : St} {a2 : Act}
    (hE : Ends0 (inPlace l) w S hv F w1 S1 hv1 F1 (updReg (fun _ => none) r1.rs)) (q1 : Rel n B s2 a2 w2 S2 hv2 F2) (q2 : Step' w1 S1 hv1 F1 (updReg (fun _ => none) r1.rs) w2 S2 hv2 F2 s2.reg)
    {x : Ex} (hinj : (inject (headIds l) l.exits x s2).run = some y) :
    ∃ e ∈ l.exits, ∃ sh rb, (eject l.exits y).run = some (x, sh, rb) ∧ (rb.rs.map (·.1)).Nodup ∧ rb.slots.map (·.1) = e.2.map (·.1) ∧ ∃ S' al fl, Ends w S hv F (updReg (fun _ => none) r.rs) w2 S' al fl (updReg (fun _ => none) rb.rs) ∧
      (∀ e ∈ rb.slots, e.1 < 1000000 → VR w2 S' al (updReg (fun _ => none) rb.rs) e.2 (a2.tmps.getD e.1 undef)) ∧ Marks w2 fl B a2.defers ∧ (∀ c b, fl c b → ∃ c', F2 c' b) := by
  unfold inject at hinj
  obtain ⟨S3, hv3, F3, t1, t2, t3⟩ := q1.settle (l.exits.flatMap fun e => match decide (x = e.1) with
    | true => e.2.map fun y => s2.at y.1
    | false => [])
  obtain ⟨e, u1, u2, ds, acc, u3, u4, u5, u6, u7⟩ := inject0_spec _ _ hinj
  obtain ⟨v1, v2⟩ := placeOk_spec u5
  obtain ⟨sl, rs, al, fl, m1, m2, m3⟩ := extF_down (val := valAt hv3 a2) t1.inv (fun _ _ h => h) _ _ _ _ u3 v1 (fun yy hyy hany hsome => by
    obtain ⟨acc', r', hs⟩ := hsome
    refine at_VR t1 ?_ hany hs
    unfold atOk at u6
    have := List.all_eq_true.1 u6 yy hyy
    rcases Bool.or_eq_true_iff.1 this with h1 | h1
    · exact .inl (by simpa using h1)
    · exact .inr h1)
  obtain ⟨S4, hE4, hV4⟩ := ends_of (q2.trans t2) m3 u4 u5 (fun cc hcc => (reg_head hr1 cc).1 hcc)
  refine ⟨e, u1, _, _, u7 _ m1, by rw [m3.rsids]; exact v1, m2, S4, al, fl, ?_, ?_, t1.df.sub fun c b hb => by obtain ⟨_, r', f, _, h⟩ := m3.flin c b hb; exact ⟨r', h⟩, fun c b hb => by
    obtain ⟨_, r', f, _, h⟩ := m3.flin c b hb
    rcases t2.bF r' b h with h2 | h2
    · exact h2
    · have := t1.inv.old r' b h
      omega⟩
  · refine hE.then hE4 fun cc h1 h2 => ?_
    have hch := (reg_head hr cc).1 h1
    refine ⟨⟨hch, e, u1, ?_⟩, (reg_head hr1 cc).2 hch⟩
    obtain ⟨q, hq⟩ := Option.ne_none_iff_exists'.1 h2
    have hm : cc ∈ rs.map (·.1) := by
      rcases updReg_some hq with h | ⟨_, h⟩
      · exact List.mem_map.2 ⟨_, h, rfl⟩
      · cases h
    rw [m3.rsids] at hm
    exact List.mem_flatMap.1 hm
  · intro e' he' hlt
    have := hV4 e' he'
    have h2 : valAt hv3 a2 e'.1 = a2.tmps.getD e'.1 undef := by
      unfold valAt
      rw [if_neg (by omega), if_neg (by omega)]
    rw [h2] at this
    exact this

/-- a loop's state at the top of a round that has k rounds of fuel -/
def Round (P : Program) (H : Hints) (nt B key n : Nat) (c : Code) (y : ExTy (loopOf H key n).exits) (a : Act) (w : World) (S : Nat → Prop) (hv : Nat → Value) (F : Nat → Nat → Prop) (K k : Nat) (a' : Act) (w' : World) : Prop :=
  k ≤ K ∧ ∃ x r, (lev H k).loop key n c x = some y ∧ rebF (loopOf H key n).head (unpack (hTys (loopOf H key n)) x) = some r ∧ ∃ S' hv' F', Ends0 (inPlace (loopOf H key n)) w S hv F w' S' hv' F' (updReg (fun _ => none) r.rs) ∧
    (∀ e ∈ r.slots, VR w' S' hv' (updReg (fun _ => none) r.rs) e.2 (a'.tmps.getD e.1 undef)) ∧ (∀ i, i ∉ writes c → a'.tmps.getD i undef = a.tmps.getD i undef) ∧ Marks w' F' B a'.defers ∧ nt ≤ a'.tmps.size

def Good (P : Program) (H : Hints) (p : Fns H) : Prop := (∀ key x y, p.call key x = some y → CallOk P H key x y) ∧ (∀ key n c x y, p.loop key n c x = some y → LoopOk P H key n c x y)

theorem evLoop_loop {key : Nat} {h : FnH} {p : Fns H} {n : Nat} {c : Code} {x : Den (tyOf (hTys (loopOf H key n)))} (hc : isRange c = false) : evLoop H key h p n c x = (match rebF (loopOf H key n).head (unpack (hTys (loopOf H key n)) x), nodupB ((loopOf H key n).head.flatMap fun e => e.2.ids) with
  | some r, true => M.run (roundOf H key h p n c r)
  | _, _ => none) := by
  unfold evLoop
  cases c <;> first | rfl | (simp [isRange] at hc)

theorem plain_loop_sound (hf : Fit P H) {K : Nat} (ih : ∀ j, j < K → Good P H (lev H j)) {key n : Nat} {c : Code} {x : Den (tyOf (hTys (loopOf H key n)))} {y : ExTy (loopOf H key n).exits} (hc : isRange c = false) (hx : (lev H K).loop key n c x = some y) : LoopOk P H key n c x y := by
  intro h hk
  have unf : ∀ k x, (lev H k).loop key n c x = some y → ∃ j, k = j + 1 ∧ evLoop H key h (lev H j) n c x = some y := by
    intro k x hx
    cases k with
    | zero => simp [lev] at hx
    | succ j =>
      refine ⟨j, rfl, ?_⟩
      simp only [lev, hk] at hx
      exact hx
  have hreb : ∀ j x, evLoop H key h (lev H j) n c x = some y → ∃ r, rebF (loopOf H key n).head (unpack (hTys (loopOf H key n)) x) = some r ∧ (headIds (loopOf H key n)).Nodup := by
    intro j x he
    rw [evLoop_loop hc] at he
    split at he
    · rename_i r hr hn
      exact ⟨r, hr, nodupB_spec hn⟩
    · cases he
  obtain ⟨j0, rfl, he0⟩ := unf K x hx
  obtain ⟨r, hr, hnd⟩ := hreb j0 x he0
  refine ⟨r, hr, hnd, fun ro hnr k0 B a w S hv F hI _ hsl hdf hsz => ?_⟩
  rw [asCode_loop hc]
  refine wp_loop_fuel (Round P H h.f.ntmps B key n c y a w S hv F (j0 + 1)) ?_ (j0 + 1) a w ⟨Nat.le_refl _, x, r, hx, hr, S, hv, F, Ends0.refl hI, fun e he => by rw [← seen_loop hc k0 a e.1]; exact hsl e he, fun _ _ => rfl, hdf, hsz⟩
  rintro k a1 w1 ⟨hkK, x1, r1, hx1, hr1, S1, hv1, F1, hE, hsl1, hfr1, hdf1, hsz1⟩
  obtain ⟨j, rfl, he⟩ := unf k x1 hx1
  rw [evLoop_loop hc] at he
  simp only [hr1] at he
  split at he
  · rename_i r2 hr2 hnd2
    simp only [Option.some.injEq] at hr2
    subst hr2
    unfold roundOf at he
    rw [M.run_bind] at he
    obtain ⟨⟨ex, s2⟩, hev, he⟩ := Option.bind_eq_some_iff.1 he
    have hrel := newFrame_rel (n := h.f.ntmps) hE.inv hsl1 hdf1 hsz1
    obtain ⟨hp, hlp⟩ := ih j (by omega)
    have hwp := ev_sound hf hp hlp hk c hnr hrel hev
    refine wpIn_mono hwp ?_
    rintro e a2 w2 ⟨rfl, S2, hv2, F2, q1, q2, q3⟩
    have q2 : Step' w1 S1 hv1 F1 (updReg (fun _ => none) r1.rs) w2 S2 hv2 F2 s2.reg := q2
    have hexit : ∀ x', ex = x' → x' ≠ .normal → (inject (headIds (loopOf H key n)) (loopOf H key n).exits x' s2).run = some y → LoopEnd h.f.ntmps B (loopOf H key n).exits y (writes c) a w S hv F (updReg (fun _ => none) r.rs) (exitOf x') a2 w2 := by
      intro x' hxx hne hinj
      obtain ⟨e, u1, sh, rb, u2, u3, u4, S4, al, fl, u5, u6, u7, _⟩ := inject_end hr hr1 hE q1 q2 hinj
      exact ⟨x', sh, rb, u2, rfl, u3, S4, al, fl, u5, u6, fun i hi => by rw [q3 i hi, hfr1 i hi], u7, q1.sz⟩
    cases ex with
    | normal =>
      simp only at he
      rw [M.run_bind] at he
      obtain ⟨⟨ds, acc⟩, h1, he⟩ := Option.bind_eq_some_iff.1 he
      split at he
      · rename_i y' hchk hpk
        simp only [Bool.and_eq_true] at hchk
        simp only [M.run] at he
        obtain ⟨z, hz, he⟩ := Option.bind_eq_some_iff.1 he
        simp only [Option.some.injEq] at he
        subst he
        obtain ⟨S3, hv3, F3, t1, t2, t3⟩ := q1.settle ((loopOf H key n).head.map fun y => s2.slot y.1)
        obtain ⟨sl, rs, al, fl, m1, m2, m3⟩ := extF_down (val := fun i => a2.tmps.getD i undef) t1.inv (fun _ _ h => h) _ _ _ _ h1 hnd (fun yy _ _ _ => t1.sl yy.1)
        obtain ⟨S4, hE4, hV4⟩ := ends0_of (J := inPlace (loopOf H key n)) (q2.trans t2) m3 hchk.1 hnd (fun cc hcc => ⟨(reg_head hr1 cc).2 hcc.1, backOk_spec hchk.2 cc hcc⟩)
        refine ⟨j, by omega, by omega, y', ⟨sl, rs⟩, hz, ?_, S4, al, fl, hE.trans hE4, hV4, fun i hi => by rw [q3 i hi, hfr1 i hi], t1.df.sub fun c b hb => by obtain ⟨_, r', f, _, h⟩ := m3.flin c b hb; exact ⟨r', h⟩, q1.sz⟩
        rw [unpack_pack _ _ _ hpk]
        exact m1
      · simp [M.run] at he
    | ret => exact hexit .ret rfl (by simp) he
    | exit m => exact hexit (.exit m) rfl (by simp) he
  · cases he

/-! ### ranges over slices.Backward -/
theorem Ends0.turn {J : Nat → Prop} (h : Ends0 J w S hv F w' S' hv' F' g') {l : Nat} {o : Obj} (o' : Obj) (hl : w'.heap[l]? = some o) (ho : Obj.isMark o = true) (hw : w.heap.size ≤ l) : Ends0 J w S hv F (w'.putObj l o') S' hv' (fun c b => F' c b ∧ NM w' b) g' :=
  ⟨h.inv.turn o' hl ho, h.sub, h.hv, h.bS, fun c b hb => h.bF c b hb.1, fun b hb hn => by rw [World.putObj_heap_other (by omega)]; exact h.fr b hb hn, by rw [World.putObj_size]; exact h.sz, h.st⟩

theorem Ends.turn (h : Ends w S hv F g w' S' hv' F' g') {l : Nat} {o : Obj} (o' : Obj) (hl : w'.heap[l]? = some o) (ho : Obj.isMark o = true) (hw : w.heap.size ≤ l) : Ends w S hv F g (w'.putObj l o') S' hv' (fun c b => F' c b ∧ NM w' b) g' :=
  ⟨h.inv.turn o' hl ho, h.sub, h.hv, h.bS, fun c b hb => h.bF c b hb.1, fun b hb hn => by rw [World.putObj_heap_other (by omega)]; exact h.fr b hb hn, by rw [World.putObj_size]; exact h.sz, h.st⟩

theorem slot_of {r : RebF} {i : Nat} {a : SV} (h : (newFrame r).slot i = a) (ha : a ≠ .dead) : ∃ e ∈ r.slots, e.1 = i ∧ e.2 = a := by
  rcases slotsOf_spec (fun _ => .dead) i r.slots with ⟨e, h1, h2, h3⟩ | ⟨_, h2⟩
  · exact ⟨e, h1, h2, by rw [← h]; exact h3.symm⟩
  · exact absurd (by rw [← h]; exact h2) ha

theorem size_one {u : Ty} (h : Rf.isAgg u = false) : size u = 1 := by cases u <;> simp [Rf.isAgg] at h <;> rfl

/-- the element that a round is handed -/
theorem elemAt_sound (hf : Fit P H) {s : St} (hI : Inv w S hv F s.reg) {t : Nat} {fv : Value} (hv0 : VR w S hv s.reg (s.slot t) fv) {i : Nat} {e : SV} (h : (elemAt H s t i).run = some e) :
    ∃ (gf E Bs : Nat) (u : Ty) (b o len cap : Nat) (cs : List Value) (v : Value), fv = .func (.func gf) #[] #[.pointer (some ⟨Bs, 0, none⟩)] ∧ H.iter gf = some E ∧ H.ty E = some u ∧ w.cell? ⟨Bs, 0, none⟩ = some (.slice (some ⟨b, o, none⟩) len cap) ∧
      i < len ∧ len ≤ big ∧ cs.length = size u ∧ rd w b (o + i * size u) cs ∧ Pk (Rf.isAgg u) cs v ∧ VR w S hv s.reg e v := by
  unfold elemAt at h
  split at h
  · rename_i gf d hs
    split at h
    · rename_i E hE
      rw [hs] at hv0
      -- one element, as one value
      have hfin : ∀ (u : Ty) (x : Den u) (cs : List Value), Rep w S false u x cs → cs.length = size u ∧ ∃ v, Pk (Rf.isAgg u) cs v ∧ VR w S hv s.reg (.v u x) v := by
        intro u x cs hr
        have hl := Rep_length _ _ _ hr
        refine ⟨hl, ?_⟩
        have hp : ∃ v, Pk (Rf.isAgg u) cs v := by
          cases hag : Rf.isAgg u with
          | true => exact ⟨_, .inl ⟨rfl, rfl⟩⟩
          | false =>
            rw [size_one hag] at hl
            match cs, hl with
            | [v], _ => exact ⟨v, .inr ⟨rfl, rfl⟩⟩
        obtain ⟨v, hp⟩ := hp
        exact ⟨v, hp, VR_of_cells (x := (Rf.isAgg u, size u)) rfl hp (by simp only [CRep]; exact hr)⟩
      split at h
      · rename_i u x hb
        split at h
        · rename_i hu
          have hu := of_decide_eq_true hu
          simp only [M.run] at h
          cases hlt : decide ((i : Int) < x.2.length) with
          | false => rw [hlt] at h; simp [M.run] at h
          | true =>
            simp only [hlt, cond_true, Option.some.injEq] at h
            subst h
            have hlt := of_decide_eq_true hlt
            have hlt' : i < x.2.length := by omega
            obtain ⟨bl, arr, T, g1, g2, g4⟩ := boxed hI hv0 hb
            simp only [CRep, Rep] at g4
            have hne : x.2 ≠ [] := fun hh => by rw [hh] at hlt'; simp at hlt'
            obtain ⟨b, o, cap, k1, k2, k3, k4⟩ : ∃ b o cap, arr.toList = [.slice (some ⟨b, o, none⟩) x.2.length cap] ∧ x.2.length ≤ cap ∧ x.2.length ≤ big ∧ ∀ i e, x.2[i]? = some e → S b ∧ ∃ c, c.length = size u ∧ rd w b (o + i * size u) c ∧ Rep w S false u e c := by
              rcases g4 with g4 | ⟨_, g4⟩ | g4
              · exact absurd g4.2.1 hne
              · exact g4
              · exact absurd g4.2.1 hne
            obtain ⟨_, cs, c1, c2, c3⟩ := k4 i x.2[i] (by simp [hlt'])
            obtain ⟨d1, v, d2, d3⟩ := hfin u _ cs c3
            refine ⟨gf, E, bl, u, b, o, x.2.length, cap, cs, v, g1, hE, hu, boxed_cell g2 k1, hlt', k3, d1, c2, d2, ?_⟩
            have e1 : x.2.getD (Int.toNat (i : Int)) (dflt u) = x.2[i] := by simp [List.getD_eq_getElem?_getD, hlt']
            rw [e1]
            exact d3
        · simp [M.run] at h
      · rename_i c hb
        split at h
        · rename_i u dp n xs hc
          split at h
          · rename_i hu
            simp only [Bool.and_eq_true, decide_eq_true_eq] at hu
            simp only [M.run] at h
            cases hlt : decide ((i : Int) < xs.length) with
            | false => rw [hlt] at h; simp [M.run] at h
            | true =>
              simp only [hlt, cond_true, Option.some.injEq] at h
              subst h
              have hlt := of_decide_eq_true hlt
              have hlt' : i < xs.length := by omega
              obtain ⟨bl, arr, T, g1, g2, g4⟩ := boxed hI hv0 hb
              simp only [CRep] at g4
              have hg := hI.rep _ _ hc
              simp only [GRep] at hg
              rcases hg with ⟨_, hnil, _⟩ | ⟨h0, b, o, cap, arr2, T2, G, h1, h2, h3, h4, h5, h6, h7, h8, h9⟩
              · rw [hnil] at hlt'; simp at hlt'
              · obtain ⟨cs, c1, c2, c3⟩ := h9 i xs[i] (by simp [hlt'])
                have c4 : Rep w S false u xs[i] cs := by
                  cases dp
                  · exact c3
                  · exact DRep_Rep _ _ (fun _ => False) _ (fun _ h => h.elim) (DRep_flat (w := w) (w' := w) (F' := fun _ => False) _ _ _ hu.2 c3)
                obtain ⟨d1, v, d2, d3⟩ := hfin u _ cs c4
                refine ⟨gf, E, bl, u, b, o, xs.length, cap, cs, v, g1, hE, hu.1, boxed_cell g2 (by rw [g4.2.2, h1]), hlt', h3, d1, c2, d2, ?_⟩
                have e1 : xs.getD (Int.toNat (i : Int)) (dflt u) = xs[i] := by simp [List.getD_eq_getElem?_getD, hlt']
                rw [e1]
                exact d3
          · simp [M.run] at h
        · simp [M.run] at h
      · simp [M.run] at h
    · simp [M.run] at h
  · simp [M.run] at h

/-- a loop's record -/
def recOf (fn : FuncId) (a : Act) (ps : Array Tmp) (as d : Code) (D : Nat) (st : LoopState) (pe : Option Code) : Loop := { state := st, pending := pe, fn, tmps := a.tmps, params := ps, assign := as, body := d, defers := D }

theorem round_tmps {ps : Array Tmp} {q q2 : Nat} (hps : ps.toList = [q, q2]) (a : Array Value) (u v : Value) :
    (ps.zip #[u, v]).foldl (fun t (p, x) => t.setIfInBounds p x) a = (a.setIfInBounds q u).setIfInBounds q2 v := by
  obtain rfl : ps = #[q, q2] := by apply Array.ext'; simpa using hps
  simp

theorem getD_set {a : Array Value} {q : Nat} {u : Value} (i : Nat) (hq : q < a.size) : (a.setIfInBounds q u).getD i undef = if i = q then u else a.getD i undef := by
  rw [Array.getD_eq_getD_getElem?, Array.getD_eq_getD_getElem?, Array.getElem?_setIfInBounds]
  by_cases h : i = q
  · subst h; simp [hq]
  · have : ¬ q = i := fun e => h e.symm
    simp [h, this]

theorem alloc2_heap {w : World} {b : Nat} (o1 o2 : Obj) (hb : b < w.heap.size) : ((w.alloc o1).alloc o2).heap[b]? = w.heap[b]? := by
  show ((w.heap.push o1).push o2)[b]? = _
  rw [Array.getElem?_push, if_neg (by simp; omega), Array.getElem?_push, if_neg (by omega)]

/-- two blocks more: a mark's, and a record -/
theorem marks_alloc (hI : Inv w S hv F g) (o1 o2 : Obj) : Step' w S hv F g ((w.alloc o1).alloc o2) S hv F g := by
  have hh : ∀ b, b < w.heap.size → ((w.alloc o1).alloc o2).heap[b]? = w.heap[b]? := fun b hb => by
    show ((w.heap.push o1).push o2)[b]? = _
    rw [Array.getElem?_push, if_neg (by simp; omega), Array.getElem?_push, if_neg (by omega)]
  have hs : ((w.alloc o1).alloc o2).heap.size = w.heap.size + 2 := by show ((w.heap.push o1).push o2).size = _; simp
  exact mkStep hI (fun _ => False) (fun _ _ => rfl) (fun _ _ => rfl) (by omega) (fun b hb _ => hh b hb) (fun _ h => h) (fun _ _ => rfl) (fun _ h => h.elim) (fun _ _ h => h.elim) (fun _ _ _ h => h.elim) (fun _ _ h => h.elim) (fun _ _ h => h.elim) (fun _ _ h => h.elim) (fun _ _ _ h => h.elim) (fun b h => .inl h) (fun b h => by have := hI.sold b h; omega) (fun _ _ h => h.elim) ⟨rfl, rfl, rfl, Nat.le_refl _⟩

/-- a mark turns before and behind a step -/
theorem Step'.swap (h : Step' w S hv F g w' S' hv' F' g') {l : Nat} {o o2 : Obj} (o' : Obj) (hl : w.heap[l]? = some o) (ho : Obj.isMark o = true) (hl' : w'.heap[l]? = some o2) (ho2 : Obj.isMark o2 = true) (ho' : Obj.isMark o' = true) : Step' (w.putObj l o') S hv F g (w'.putObj l o') S' hv' (fun c b => F' c b ∧ NM w' b) g' := by
  have h1 := (Array.getElem?_eq_some_iff.1 hl).1
  have h2 := (Array.getElem?_eq_some_iff.1 hl').1
  refine ⟨h.inv.turn o' hl' ho2, ⟨fun b i v hb hc => ?_, h.ext.sub, h.ext.hv, h.ext.used, h.ext.len⟩, fun b hb => by rw [World.putObj_size]; exact h.bS b hb, fun c b hb => by rw [World.putObj_size]; exact h.bF c b hb.1, fun b hb hn => ?_, by rw [World.putObj_size, World.putObj_size]; exact h.sz, h.st⟩
  · by_cases e : b = l
    · subst e
      simp only [World.cell?, World.putObj_heap_same h1] at hc
      cases o' <;> simp [Obj.isMark] at ho' <;> simp at hc
    · rw [cell_heap (World.putObj_heap_other e)] at hc
      rw [cell_heap (World.putObj_heap_other e)]
      exact h.ext.keep b i v hb hc
  · rw [World.putObj_size] at hb
    by_cases e : b = l
    · subst e
      rw [World.putObj_heap_same h1, World.putObj_heap_same h2]
    · rw [World.putObj_heap_other e, World.putObj_heap_other e]
      exact h.fr b hb hn

theorem calm_normal {key : Nat} {h : FnH} {p : Fns H} : ∀ (c : Code) {s s' : St} {x : Ex}, calm c = true → (ev H key h p c s).run = some (x, s') → x = .normal := by
  intro c
  induction c with
  | skip => intro s s' x _ he; simp only [ev, M.run, Option.some.injEq, Prod.mk.injEq] at he; exact he.1.symm
  | region id ops draw =>
    intro s s' x _ he
    simp only [ev] at he
    rw [M.run_bind] at he
    obtain ⟨r, _, he⟩ := Option.bind_eq_some_iff.1 he
    split at he
    · simp only [M.run, Option.some.injEq, Prod.mk.injEq] at he; exact he.1.symm
    · simp [M.run] at he
  | seq a b iha ihb =>
    intro s s' x hc he
    simp only [calm, Bool.and_eq_true] at hc
    simp only [ev] at he
    rw [M.run_bind] at he
    obtain ⟨⟨x1, s1⟩, h1, he⟩ := Option.bind_eq_some_iff.1 he
    obtain rfl := iha hc.1 h1
    exact ihb hc.2 he
  | _ => intro s s' x hc; simp [calm] at hc

theorem calm_noRange : ∀ (c : Code), calm c = true → noRange c = true := by
  intro c
  induction c with
  | seq a b iha ihb => intro hc; simp only [calm, Bool.and_eq_true] at hc; simp only [noRange, iha hc.1, ihb hc.2, Bool.and_self]
  | skip => intro _; rfl
  | region id ops draw => intro _; rfl
  | _ => intro hc; simp [calm] at hc

theorem range_sound (hf : Fit P H) {K : Nat} (ih : ∀ j, j < K → Good P H (lev H j)) {key n : Nat} {g0 : Operand} {ps : Array Tmp} {as d : Code} {x : Den (tyOf (hTys (loopOf H key n)))} {y : ExTy (loopOf H key n).exits} (hx : (lev H K).loop key n (.rangeFunc g0 ps as d) x = some y) : LoopOk P H key n (.rangeFunc g0 ps as d) x y := by
  intro h hk
  have unf : ∀ k x, (lev H k).loop key n (.rangeFunc g0 ps as d) x = some y → ∃ j t q q2 r, k = j + 1 ∧ g0 = .tmp t ∧ ps.toList = [q, q2] ∧ rangeOk (loopOf H key n) h.f.ntmps q q2 as d = true ∧ rebF (loopOf H key n).head (unpack (hTys (loopOf H key n)) x) = some r ∧ (headIds (loopOf H key n)).Nodup ∧ M.run (roundR H key h (lev H j) n t ps q q2 as d r) = some y := by
    intro k x hx
    cases k with
    | zero => simp [lev] at hx
    | succ j =>
      simp only [lev, hk] at hx
      unfold evLoop at hx
      split at hx
      · rename_i r hr hn
        unfold roundAny at hx
        split at hx
        · rename_i t ps' as' d' heq
          cases heq
          split at hx
          · rename_i q q2 hps
            split at hx
            · rename_i hok
              exact ⟨j, t, q, q2, r, rfl, rfl, hps, hok, hr, nodupB_spec hn, hx⟩
            · simp [M.run] at hx
          · simp [M.run] at hx
        · simp [M.run] at hx
        · rename_i h1 h2
          exact absurd rfl (h2 _ _ _ _)
      · cases hx
  obtain ⟨j0, t, q, q2, r, rfl, rfl, hps, hok, hr, hnd, he0⟩ := unf K x hx
  have hok' := hok
  simp only [rangeOk, Bool.and_eq_true, decide_eq_true_eq, List.all_eq_true, Bool.or_eq_true, Bool.not_eq_true', beq_iff_eq, Nat.ble_eq] at hok'
  obtain ⟨⟨⟨⟨⟨⟨hq1, hq2⟩, hxs⟩, hhd⟩, hne⟩, hcalm⟩, hnoR⟩ := hok'
  have hne : q ≠ q2 := by simpa using hne
  have hpsz : (2 : Nat) = ps.size := by have := congrArg List.length hps; simpa using this.symm
  have hps0 : ps[0]? = some q := by rw [← Array.getElem?_toList, hps]; rfl
  have hseen_q : ∀ k a, seen (.rangeFunc (.tmp t) ps as d) k a q = .int .i64 (k - 1) := fun k a => by simp [seen, hps0]
  have hseen : ∀ k a i, i ≠ q → seen (.rangeFunc (.tmp t) ps as d) k a i = a.tmps.getD i undef := fun k a i hi => by
    have : ¬ q = i := fun e => hi e.symm
    simp [seen, hps0, this]
  refine ⟨r, hr, hnd, fun ro hnr k B a w S hv F hI hran hsl hdf hsz => ?_⟩
  obtain rfl : ro = none := hnr.resolve_right (by simp [noRange])
  obtain ⟨gf, E, Bs, A, m, cap, hE, hfv, hcell, rfl, hmb⟩ := hran
  obtain ⟨u, hu, hcf, hit⟩ := hf.iter gf E hE
  show (Code.rangeFunc (.tmp t) ps as d).wpIn (Fw none) 0 P _ a w
  refine wpIn_rangeFunc ?_
  intro fn hfn
  let mk : Deferred := { target := .collected w.heap.size, args := #[] }
  let rc := recOf fn a ps as d w.heap.size
  have hst1 := marks_alloc hI (.deferred (some [])) (.loop (rc .ready none))
  obtain ⟨W1, hW1⟩ : ∃ W1, (w.alloc (.deferred (some []))).alloc (.loop (rc .ready none)) = W1 := ⟨_, rfl⟩
  rw [hW1] at hst1
  have hL1 : W1.heap[w.heap.size + 1]? = some (.loop (rc .ready none)) := by
    rw [← hW1]
    have := World.alloc_heap_new (w.alloc (.deferred (some []))) (.loop (rc .ready none))
    rwa [World.size_alloc] at this
  have hD1 : W1.heap[w.heap.size]? = some (.deferred (some [])) := by
    rw [← hW1]
    show ((w.heap.push _).push _)[w.heap.size]? = _
    rw [Array.getElem?_push, if_neg (by simp), Array.getElem?_push, if_pos rfl]
  have hm1 : Marks W1 F B (mk :: a.defers) := by
    have h1 := hdf.step hst1
    refine ⟨h1.1, List.pairwise_cons.2 ⟨fun e he hh => ?_, h1.2.1⟩, fun e he => ?_⟩
    · obtain ⟨D, k1, _, k3, _⟩ := hdf.2.2 e he
      have hlt : D < w.heap.size := (Array.getElem?_eq_some_iff.1 k3).1
      rw [k1] at hh
      injection hh with hh
      omega
    · rcases List.mem_cons.1 he with rfl | he
      · exact ⟨w.heap.size, rfl, hdf.1, hD1, fun c hc => by have := hI.old c _ hc; omega⟩
      · exact h1.2.2 e he
  have hmk : ∀ e ∈ mk :: a.defers, ∀ W F', Marks W F' B (mk :: a.defers) → ∀ o : Loop, W.heap[w.heap.size + 1]? = some (.loop o) → e.target ≠ .collected (w.heap.size + 1) := by
    intro e he W F' hM o ho hh
    obtain ⟨D, k1, _, k3, _⟩ := hM.2.2 e he
    rw [k1] at hh
    injection hh with hh
    rw [hh, ho] at k3
    cases k3
  -- the ways out
  let End : Ex → World → Prop := fun x' W => ∃ sh rb, (eject (loopOf H key n).exits y).run = some (x', sh, rb) ∧ (rb.rs.map (·.1)).Nodup ∧ (∀ e ∈ rb.slots, ¬ e.1 < 1000000) ∧ ∃ S' hv' F', Ends w S hv F (updReg (fun _ => none) r.rs) W S' hv' F' (updReg (fun _ => none) rb.rs) ∧ Marks W F' B (mk :: a.defers)
  have hEnd : ∀ x' W o, End x' W → W.heap[w.heap.size + 1]? = some (.loop o) → ∀ o', LoopEnd h.f.ntmps B (loopOf H key n).exits y (writes (.rangeFunc (.tmp t) ps as d)) a w S hv F (updReg (fun _ => none) r.rs) (exitOf x') { a with defers := [mk] ++ a.defers } (W.putObj (w.heap.size + 1) o') := by
    rintro x' W o ⟨sh, rb, k1, k2, k3, S', hv', F', k4, k5⟩ ho o'
    exact ⟨x', sh, rb, k1, rfl, k2, S', hv', _, k4.turn o' ho rfl (by omega), fun e he hlt => absurd hlt (k3 e he), fun _ _ => rfl, k5.turn o' ho (fun e he => hmk e he W F' k5 o ho) (fun c b hb => ⟨c, hb.1⟩), hsz⟩
  let J : Nat → World → Prop := fun i W => ∃ j x1 r1, j ≤ j0 + 1 ∧ (lev H j).loop key n (.rangeFunc (.tmp t) ps as d) x1 = some y ∧ rebF (loopOf H key n).head (unpack (hTys (loopOf H key n)) x1) = some r1 ∧ ∃ S' hv' F', Ends0 (inPlace (loopOf H key n)) w S hv F W S' hv' F' (updReg (fun _ => none) r1.rs) ∧
    (∀ e ∈ r1.slots, VR W S' hv' (updReg (fun _ => none) r1.rs) e.2 (seen (.rangeFunc (.tmp t) ps as d) (i : Nat) a e.1)) ∧ W.heap[w.heap.size + 1]? = some (.loop (rc .ready none)) ∧ Marks W F' B (mk :: a.defers)
  let Jx : World → Prop := fun W => ∃ c x', ((c = Code.ret ∧ x' = Ex.ret) ∨ ∃ id, c = Code.exit id ∧ x' = Ex.exit id) ∧ W.heap[w.heap.size + 1]? = some (.loop (rc .done (some c))) ∧ End x' W
  have hsmall : ∀ e ∈ (loopOf H key n).exits, ∀ rb : RebF, rb.slots.map (·.1) = e.2.map (·.1) → ∀ e' ∈ rb.slots, ¬ e'.1 < 1000000 := by
    intro e he rb hrb e' he' hlt
    have h1 : e'.1 ∈ e.2.map (·.1) := by rw [← hrb]; exact List.mem_map_of_mem he'
    obtain ⟨yy, h2, h3⟩ := List.mem_map.1 h1
    have := hxs e he yy h2
    omega
  refine ⟨w.heap.size + 1, [mk], W1, { target := .fn (.func gf) #[.pointer (some ⟨Bs, 0, none⟩)], args := #[.func (.yield (w.heap.size + 1)) #[] #[]] }, W1, gf, #[.func (.yield (w.heap.size + 1)) #[] #[], .pointer (some ⟨Bs, 0, none⟩)], W1, ?_, ?_, fun _ _ => trivial, ?_, fun h => by simp [Fw, Fence.wide] at h, ?_⟩
  · rw [← hW1]; exact run_enterLoop_outer _ _ _ _ _
  · have hg : a.eval (.tmp t) = .func (.func gf) #[] #[.pointer (some ⟨Bs, 0, none⟩)] := hfv
    simp only [resolve, hg]
    simp [go_sem]
  · simp [invoke, go_sem, hcf]
  · refine CallsIn.mono (hit (w.heap.size + 1) Bs J Jx A m cap W1 hmb ?_ ?_ ?_) ?_
    · have hlt : Bs < w.heap.size := block_of_cell hcell
      exact (cell_heap (by rw [← hW1]; exact alloc2_heap _ _ hlt) 0).trans hcell
    · exact ⟨j0 + 1, x, r, Nat.le_refl _, hx, hr, S, hv, F, ⟨hst1.inv, hst1.ext.sub, fun _ _ => rfl, hst1.bS, hst1.bF, hst1.fr, hst1.sz, hst1.st⟩, fun e he => VR_mono hst1.ext _ _ (hsl e he), hL1, hm1⟩
    · -- a round
      rintro i W hi ⟨j, x1, r1, hj, hx1, hr1, S1, hv1, F1, hE1, hsl1, hL, hM⟩
      obtain ⟨j', t', q', q2', r1', rfl, ht, hps', _, hr1', _, he⟩ := unf j x1 hx1
      cases ht
      rw [hps] at hps'
      cases hps'
      rw [hr1] at hr1'
      cases hr1'
      unfold roundR at he
      split at he
      · rename_i iv hq
        obtain ⟨e0, h01, h02, h03⟩ := slot_of hq (by simp)
        have hq' := hsl1 e0 h01
        rw [h03, h02, hseen_q, VR_int] at hq'
        obtain ⟨hq3, hq4⟩ := hq'
        have hiv : iv = (i : Int) := by
          have h9 := (Value.int.inj hq3).2
          have hq5 : ((i + 1 : Nat) : Int) - 1 = (iv : Int) := h9
          have key : ((i + 1 : Nat) : Int) - 1 = (i : Int) := by omega
          exact hq5.symm.trans key
        subst hiv
        have hneg : decide (((i : Nat) : Int) < 0) = false := by simp
        simp only [M.run, hneg, cond_false] at he
        rw [M.run_bind] at he
        obtain ⟨el, hel, he⟩ := Option.bind_eq_some_iff.1 he
        rw [M.run_bind] at he
        obtain ⟨⟨ex, s2⟩, hev, he⟩ := Option.bind_eq_some_iff.1 he
        have hslot : ∀ i', i' ≠ q → VR W S1 hv1 (updReg (fun _ => none) r1.rs) ((newFrame r1).slot i') (a.tmps.getD i' undef) := by
          intro i' hi'
          show VR W S1 hv1 (updReg (fun _ => none) r1.rs) (slotsOf r1.slots (fun _ => .dead) i') _
          rcases slotsOf_spec (fun _ => .dead) i' r1.slots with ⟨e1, k1, k2, k3⟩ | ⟨_, k2⟩
          · rw [k3]
            have := hsl1 e1 k1
            rw [k2, hseen _ _ _ hi'] at this
            exact this
          · rw [k2]; trivial
        have htq : t ≠ q := by
          intro e
          subst e
          simp [elemAt, hq, M.run] at hel
        obtain ⟨gf2, E2, Bs2, u2, b, o, len, cap2, cs, v, z1, z2, z3, z4, z5, z6, z7, z8, z9, z10⟩ := elemAt_sound hf (s := newFrame r1) hE1.inv (hslot t htq) hel
        rw [hfv] at z1
        simp only [Value.func.injEq, Fn.func.injEq, Array.mk.injEq, List.cons.injEq, Value.pointer.injEq, Option.some.injEq, Addr.mk.injEq, and_true, true_and] at z1
        obtain ⟨rfl, rfl⟩ := z1
        rw [hE] at z2
        cases z2
        rw [hu] at z3
        cases z3
        refine ⟨b, o, len, cap2, cs, v, z4, z5, z6, z7, z8, z9, fn, _, as, d, run_yield hL hpsz, ?_⟩
        -- in the round's frame
        simp only [ev] at hev
        rw [M.run_bind] at hev
        obtain ⟨⟨x1', s1⟩, hev1, hev⟩ := Option.bind_eq_some_iff.1 hev
        obtain rfl := calm_normal as hcalm hev1
        simp only at hev
        have htm := round_tmps hps a.tmps (.int .i64 (i : Int)) v
        have hsz2 : q < a.tmps.size ∧ q2 < a.tmps.size := ⟨Nat.lt_of_lt_of_le hq1 hsz, Nat.lt_of_lt_of_le hq2 hsz⟩
        have hrel : Rel h.f.ntmps 0 ((newFrame r1).put (some q2) el) { tmps := ((rc .ready none).params.zip #[.int .i64 (i : Int), v]).foldl (fun t (p, x) => t.setIfInBounds p x) (rc .ready none).tmps, defers := [] } W S1 hv1 (fun c b => F1 c b ∧ NM W b) := by
          have htm' : ((rc .ready none).params.zip #[.int .i64 (i : Int), v]).foldl (fun t (p, x) => t.setIfInBounds p x) (rc .ready none).tmps = (a.tmps.setIfInBounds q (.int .i64 (i : Int))).setIfInBounds q2 v := htm
          rw [htm']
          refine ⟨by rw [put_reg]; exact hE1.inv.shrink, fun i' => ?_, Marks.nil (Nat.zero_le _), by simpa using hsz⟩
          rw [put_slot, put_reg]
          show VR W S1 hv1 (updReg (fun _ => none) r1.rs) _ (((a.tmps.setIfInBounds q (.int .i64 (i : Int))).setIfInBounds q2 v).getD i' undef)
          rw [getD_set i' (by simpa using hsz2.2), getD_set i' hsz2.1]
          by_cases h1 : q2 = i'
          · subst h1
            simp only [if_true]
            exact z10
          · have h1' : ¬ i' = q2 := fun e => h1 e.symm
            simp only [Option.some.injEq, h1, h1', if_false]
            by_cases h2 : i' = q
            · subst h2
              rw [hq]
              simp only [if_true]
              exact VR_int.2 ⟨rfl, hq4⟩
            · simp only [h2, if_false]
              exact hslot i' h2
        obtain ⟨hp, hlp⟩ := ih j' (by omega)
        have hwp1 := ev_sound (ro := some (w.heap.size + 1)) hf hp hlp hk as (.inr (calm_noRange as hcalm)) hrel hev1
        refine roundIn_of_wpIn (F := Fence.wide) trivial (wpIn_mono hwp1 ?_)
        rintro e1' a1 W1' ⟨rfl, S1', hv1', F1', o1, o2, o3⟩
        rw [put_reg] at o2
        have o2 : Step' W S1 hv1 (fun c b => F1 c b ∧ NM W b) (updReg (fun _ => none) r1.rs) W1' S1' hv1' F1' s1.reg := o2
        have hL' : W1'.heap[w.heap.size + 1]? = some (.loop (rc .ready none)) := by
          rw [o2.fr _ (Array.getElem?_eq_some_iff.1 hL).1 (fun c hc => by have := hc.2 _ hL; simp [Obj.isMark] at this)]
          exact hL
        obtain ⟨W2, hW2⟩ : ∃ W2, W1'.putObj (w.heap.size + 1) (.loop { rc .ready none with state := .busy }) = W2 := ⟨_, rfl⟩
        show ∃ w₂, (Instr.beginRound (w.heap.size + 1)).run P W1' = .ok () w₂ ∧ _
        refine ⟨W2, by rw [← hW2]; exact run_beginRound hL' rfl, ?_⟩
        have hx2 : Ext W1' S1' hv1' s1.reg W2 S1' hv1' s1.reg := by rw [← hW2]; exact ext_turn _ hL' rfl
        have hE2 := hE1.turn (.loop { rc .ready none with state := .busy }) hL rfl (by omega)
        have hM2 := hM.turn (F' := fun c b => F1 c b ∧ NM W b) (.loop { rc .ready none with state := .busy }) hL (fun e he => hmk e he W F1 hM _ hL) (fun c b hb => ⟨c, hb.1⟩)
        have o4 := o2.swap (.loop { rc .ready none with state := .busy }) hL rfl hL' rfl rfl
        rw [hW2] at o4
        have hrel2 : Rel h.f.ntmps 0 s1 a1 W2 S1' hv1' (fun c b => F1' c b ∧ NM W1' b) := ⟨o4.inv, fun i' => VR_mono hx2 _ _ (o1.sl i'), by
          rw [← hW2]
          exact o1.df.turn _ hL' (fun e he hh => by
            obtain ⟨D, k1, _, k3, _⟩ := o1.df.2.2 e he
            rw [k1] at hh
            injection hh with hh
            rw [hh, hL'] at k3
            cases k3) (fun c b hb => ⟨c, hb.1⟩), o1.sz⟩
        have hwp := ev_sound (ro := some (w.heap.size + 1)) hf hp hlp hk d (.inr hnoR) hrel2 hev
        refine wpIn_mono hwp ?_
        rintro e' a2 W3 ⟨rfl, S2, hv2, F2, p1, p2', p3⟩
        have p2 := o4.trans p2'
        have hl2 : (W.putObj (w.heap.size + 1) (.loop { rc .ready none with state := .busy })).heap[w.heap.size + 1]? = some (.loop { rc .ready none with state := .busy }) := World.putObj_heap_same (Array.getElem?_eq_some_iff.1 hL).1
        have hl3 : W3.heap[w.heap.size + 1]? = some (.loop { rc .ready none with state := .busy }) := by
          rw [p2.fr _ (Array.getElem?_eq_some_iff.1 hl2).1 (fun c hc => by have := hc.2 _ hL; simp [Obj.isMark] at this)]
          exact hl2
        have hM3 := hM2.step p2
        have hlt3 := (Array.getElem?_eq_some_iff.1 hl3).1
        have htl : ∀ i', i' ∉ writes (.seq as d) → i' ≠ q → i' ≠ q2 → a2.tmps.getD i' undef = a.tmps.getD i' undef := by
          intro i' h1 h2 h3
          simp only [writes, List.mem_append, not_or] at h1
          rw [p3 i' h1.2, o3 i' h1.1]
          show (((rc .ready none).params.zip #[.int .i64 (i : Int), v]).foldl (fun t (p, x) => t.setIfInBounds p x) (rc .ready none).tmps).getD i' undef = _
          rw [show ((rc .ready none).params.zip #[.int .i64 (i : Int), v]).foldl (fun t (p, x) => t.setIfInBounds p x) (rc .ready none).tmps = (a.tmps.setIfInBounds q (.int .i64 (i : Int))).setIfInBounds q2 v from htm, getD_set i' (by simpa using hsz2.2), getD_set i' hsz2.1]
          simp [h2, h3]
        have hexit : ∀ x' c, ((c = Code.ret ∧ x' = Ex.ret) ∨ ∃ id, c = Code.exit id ∧ x' = Ex.exit id) → (inject (headIds (loopOf H key n)) (loopOf H key n).exits x' s2).run = some y → Jx (W3.putObj (w.heap.size + 1) (.loop (rc .done (some c)))) := by
          intro x' c hc hinj
          obtain ⟨e, u1, sh, rb, u2, u3, u4, S4, al, fl, u5, _, u7, u8⟩ := inject_end hr hr1 hE2 p1 p2 hinj
          exact ⟨c, x', hc, World.putObj_heap_same hlt3, sh, rb, u2, u3, hsmall e u1 rb u4, S4, al, _, u5.turn _ hl3 rfl (by omega), hM3.turn _ hl3 (fun e he => hmk e he W3 F2 hM3 _ hl3) (fun c b hb => u8 c b hb.1)⟩
        cases ex with
        | normal =>
          simp only at he
          rw [M.run_bind] at he
          obtain ⟨⟨ds, acc⟩, h1, he⟩ := Option.bind_eq_some_iff.1 he
          split at he
          · rename_i y' hchk hpk
            simp only [Bool.and_eq_true] at hchk
            simp only [M.run] at he
            obtain ⟨z, hz, he⟩ := Option.bind_eq_some_iff.1 he
            simp only [Option.some.injEq] at he
            subst he
            obtain ⟨S3, hv3, F3, t1, t2, t3⟩ := p1.settle ((loopOf H key n).head.map fun y => s2.slot y.1)
            obtain ⟨sl, rs, al, fl, m1, m2, m3⟩ := extF_down (val := seen (.rangeFunc (.tmp t) ps as d) (i : Nat) a) t1.inv (fun _ _ h => h) _ _ _ _ h1 hnd (fun yy hyy _ _ => by
              unfold counted
              by_cases h2 : yy.1 = q
              · rw [h2, hseen_q]
                simp only [beq_self_eq_true, cond_true]
                exact VR_int.2 ⟨rfl, by have e1 : IntKind.i64.min = -9223372036854775808 := (by decide); omega, by omega⟩
              · have h3 : (yy.1 == q) = false := by simpa using h2
                rw [h3, hseen _ _ _ h2]
                simp only [cond_false]
                obtain h4 | ⟨h4, h5⟩ := hhd yy hyy
                · exact absurd h4 h2
                · have h4 : yy.1 ≠ q2 := by simpa using h4
                  have h5 : yy.1 ∉ writes (.seq as d) := fun hm => by rw [hasN_iff.2 hm] at h5; cases h5
                  rw [← htl yy.1 h5 h2 h4]
                  exact t1.sl yy.1)
            obtain ⟨S4, hE4, hV4⟩ := ends0_of (J := inPlace (loopOf H key n)) (p2.trans t2) m3 hchk.1 hnd (fun cc hcc => ⟨(reg_head hr1 cc).2 hcc.1, backOk_spec hchk.2 cc hcc⟩)
            refine ⟨_, _, run_endRound none hl3, .inl ⟨rfl, j', y', ⟨sl, rs⟩, by omega, hz, ?_, S4, al, _, (hE2.trans hE4).turn _ hl3 rfl (by omega), fun e he => VR_mono (ext_turn _ hl3 rfl) _ _ (hV4 e he), World.putObj_heap_same hlt3, ?_⟩⟩
            · rw [unpack_pack _ _ _ hpk]
              exact m1
            · refine (hM3.turn _ hl3 (fun e he => hmk e he W3 F2 hM3 _ hl3) (F' := F2) (fun c b hb => ⟨c, hb⟩)).sub fun c b hb => ?_
              obtain ⟨_, r', f, _, hb2⟩ := m3.flin c b hb.1
              rcases t2.bF r' b hb2 with hb3 | hb3
              · exact hb3
              · have := t1.inv.old r' b hb2
                omega
          · simp [M.run] at he
        | ret => exact ⟨_, _, run_endRound (some .ret) hl3, .inr ⟨rfl, hexit .ret .ret (.inl ⟨rfl, rfl⟩) he⟩⟩
        | exit id => exact ⟨_, _, run_endRound (some (.exit id)) hl3, .inr ⟨rfl, hexit (.exit id) (.exit id) (.inr ⟨id, rfl, rfl⟩) he⟩⟩
      · simp [M.run] at he
    · -- behind the rounds
      rintro e' W' ⟨⟨v, rfl⟩, ⟨j, x1, r1, hj, hx1, hr1, S1, hv1, F1, hE1, hsl1, hL, hM⟩ | ⟨c, x', hc, hL, hEn⟩⟩
      · obtain ⟨j', t', q', q2', r1', rfl, ht, hps', _, hr1', _, he⟩ := unf j x1 hx1
        cases ht
        rw [hps] at hps'
        cases hps'
        rw [hr1] at hr1'
        cases hr1'
        unfold roundR at he
        split at he
        · rename_i iv hq
          obtain ⟨e0, h01, h02, h03⟩ := slot_of hq (by simp)
          have hq' := hsl1 e0 h01
          rw [h03, h02, hseen_q, VR_int] at hq'
          obtain ⟨hq3, hq4⟩ := hq'
          have hiv : iv = (-1 : Int) := by
            have h9 := (Value.int.inj hq3).2
            have hq5 : ((0 : Nat) : Int) - 1 = (iv : Int) := h9
            have hq6 : (iv : Int) = -1 := by rw [← hq5]; rfl
            exact hq6
          subst hiv
          have hneg : decide ((-1 : Int) < 0) = true := rfl
          simp only [M.run, hneg, cond_true] at he
          have hrel : Rel h.f.ntmps B (newFrame r1) { tmps := a.tmps.setIfInBounds q (.int .i64 (-1)), defers := mk :: a.defers } W' S1 hv1 F1 := by
            refine ⟨hE1.inv, fun i' => ?_, hM, by simpa using hsz⟩
            rw [getD_set i' (Nat.lt_of_lt_of_le hq1 hsz)]
            show VR W' S1 hv1 (updReg (fun _ => none) r1.rs) (slotsOf r1.slots (fun _ => .dead) i') _
            rcases slotsOf_spec (fun _ => .dead) i' r1.slots with ⟨e1, k1, k2, k3⟩ | ⟨_, k2⟩
            · rw [k3]
              have := hsl1 e1 k1
              rw [k2] at this
              by_cases hi' : i' = q
              · subst hi'
                rw [hseen_q] at this
                simp only [if_true]
                exact this
              · rw [hseen _ _ _ hi'] at this
                rw [if_neg hi']
                exact this
            · rw [k2]; trivial
          obtain ⟨e, u1, sh, rb, u2, u3, u4, S4, al, fl, u5, _, u7, u8⟩ := inject_end hr hr1 hE1 hrel (Step'.refl hE1.inv) he
          exact ⟨none, _, run_endLoop hL (by simp [rc, recOf]), hEnd .normal W' _ ⟨sh, rb, u2, u3, hsmall e u1 rb u4, S4, al, fl, u5, u7⟩ hL _⟩
        · simp [M.run] at he
      · refine ⟨some c, _, run_endLoop hL (by simp [rc, recOf]), ?_⟩
        have := hEnd x' W' _ hEn hL (.loop { rc .done (some c) with state := .exhausted })
        rcases hc with ⟨rfl, rfl⟩ | ⟨id, rfl, rfl⟩
        · exact wpIn_ret this
        · exact wpIn_exit this

theorem loop_sound (hf : Fit P H) {K : Nat} (ih : ∀ j, j < K → Good P H (lev H j)) {key n : Nat} {c : Code} {x : Den (tyOf (hTys (loopOf H key n)))} {y : ExTy (loopOf H key n).exits} (hx : (lev H K).loop key n c x = some y) : LoopOk P H key n c x y := by
  by_cases hc : isRange c = false
  · exact plain_loop_sound hf ih hc hx
  · cases c with
    | rangeFunc g0 ps as d => exact range_sound hf ih hx
    | _ => simp [isRange] at hc
end
end Go.Rf

namespace Go.Rf

section
variable {B : Nat} {P : Program} {H : Hints} {w w' : World} {S S' S0 : Nat → Prop} {hv hv' : Nat → Value} {F F' : Nat → Nat → Prop} {g g' gl : Look}

theorem argSlots_spec : ∀ (sv : SV) (vs : List Value) (k : Nat), CRep w S hv g true sv vs → ∀ e ∈ argSlots k sv, ∃ v, vs[e.1 - k]? = some v ∧ k ≤ e.1 ∧ V0 (CRep w S hv g false e.2) e.2 v := by
  intro sv
  induction sv with
  | tup a b iha ihb =>
    intro vs k h e he
    simp only [CRep] at h
    obtain ⟨p, r, rfl, h1, h2⟩ := h
    simp only [argSlots] at he
    rcases List.mem_cons.1 he with rfl | he
    · exact ⟨p, by simp, Nat.le_refl _, h1⟩
    · obtain ⟨v, h3, h4, h5⟩ := ihb r (k + 1) h2 e he
      refine ⟨v, ?_, by omega, h5⟩
      have : e.1 - k = (e.1 - (k + 1)) + 1 := by omega
      rw [this]
      simpa using h3
  | _ => intro vs k h e he; simp [argSlots] at he

theorem reb_notchain : ∀ (s : SS) (ds : List D) (r : Reb), s.isChain = false → reb s ds = some r → r.sv ≠ .unit ∧ ∀ x y, r.sv ≠ .tup x y := by
  intro s ds r hs h
  cases s <;> simp [SS.isChain] at hs
  · simp [reb] at h; subst h; simp
  · cases ds <;> simp [reb] at h; subst h; simp
  · simp [reb] at h; subst h; simp
  · cases ds <;> simp [reb] at h; subst h; simp
  · cases ds with
    | nil => simp [reb] at h
    | cons d ds =>
      obtain ⟨u, x⟩ := d
      cases u <;> simp [reb] at h
      subst h; simp
  · simp only [reb] at h
    split at h <;> try (cases h; done)
    simp only [Option.some.injEq] at h
    subst h; simp
  · simp [reb] at h; subst h; simp
  · simp [reb] at h; subst h; simp
  · cases ds with
    | nil => simp [reb] at h
    | cons d ds =>
      obtain ⟨u, x⟩ := d
      cases u with
      | sl u' =>
        cases u' <;> simp [reb] at h
        subst h; simp
      | _ => simp [reb] at h
  · simp only [reb] at h
    split at h <;> try (cases h; done)
    rename_i r1 _
    simp only [Option.some.injEq] at h
    subst h
    cases hr : r1.sv <;> simp [mkOne, hr]
  · simp only [reb] at h
    split at h <;> try (cases h; done)
    split at h <;> try (cases h; done)
    rename_i r1 _ _ r2 _
    simp only [Option.some.injEq] at h
    subst h
    cases hr : r1.sv <;> cases hr2 : r2.sv <;> simp [mkPair, hr, hr2]
  · simp only [reb] at h
    split at h <;> try (cases h; done)
    simp only [Option.some.injEq] at h
    subst h; simp
  · rename_i c t
    match ds with
    | [] => simp [reb] at h
    | [d] => obtain ⟨u, x⟩ := d; simp [reb] at h
    | d :: e :: ds =>
      obtain ⟨u, x⟩ := d
      obtain ⟨u', y⟩ := e
      cases u <;> try (simp [reb] at h; done)
      rename_i k1
      cases k1 <;> try (simp [reb] at h; done)
      cases u' <;> try (simp [reb] at h; done)
      rename_i k2
      cases k2 <;> try (simp [reb] at h; done)
      simp [reb] at h
      subst h
      simp

/-- no element of the chain is a chain -/
theorem flatC_spec : ∀ (s : SS) (ds : List D) (r : Reb), flatC s = true → reb s ds = some r → (r.sv = .unit ∨ ∃ x y, r.sv = .tup x y) ∧ ∀ n a b, tupDrop n r.sv = .tup a b → a ≠ .unit ∧ ∀ x y, a ≠ .tup x y := by
  intro s
  induction s with
  | unit =>
    intro ds r _ h
    simp [reb] at h
    subst h
    refine ⟨.inl rfl, fun n a b hn => ?_⟩
    cases n <;> simp [tupDrop] at hn
  | tup s s' ih ih' =>
    intro ds r hf h
    simp only [flatC, Bool.and_eq_true, Bool.not_eq_true'] at hf
    simp only [reb] at h
    split at h <;> try (cases h; done)
    rename_i r1 h1
    split at h <;> try (cases h; done)
    rename_i r2 h2
    simp only [Option.some.injEq] at h
    subst h
    refine ⟨.inr ⟨_, _, rfl⟩, fun n a b hn => ?_⟩
    cases n with
    | zero =>
      simp only [tupDrop, SV.tup.injEq] at hn
      obtain ⟨rfl, rfl⟩ := hn
      exact reb_notchain s ds r1 hf.1 h1
    | succ n =>
      simp only [tupDrop] at hn
      exact (ih' _ _ hf.2 h2).2 n a b hn
  | _ => intro ds r hf; simp [flatC] at hf

theorem flatC_chain {s : SS} (h : flatC s = true) : s.isChain = true := by cases s <;> simp [flatC] at h <;> rfl

theorem argSlots_drop : ∀ (sv : SV) (k : Nat), ∀ e ∈ argSlots k sv, ∃ n b, tupDrop n sv = .tup e.2 b := by
  intro sv
  induction sv with
  | tup a b iha ihb =>
    intro k e he
    simp only [argSlots] at he
    rcases List.mem_cons.1 he with rfl | he
    · exact ⟨0, b, rfl⟩
    · obtain ⟨n, c, h⟩ := ihb (k + 1) e he
      exact ⟨n + 1, c, h⟩
  | _ => intro k e he; simp [argSlots] at he

theorem V0_VR {a : SV} {v : Value} (h1 : a ≠ .unit) (h2 : ∀ x y, a ≠ .tup x y) (h : V0 (CRep w S hv g false a) a v) : VR w S hv g a v := by
  cases a with
  | dead => trivial
  | unit => exact absurd rfl h1
  | tup x y => exact absurd rfl (h2 x y)
  | _ => exact h

theorem go_len : ∀ (s : SS) (t : SV), chainLen (backSVs.go s t) = chainLen (backSVs.go s .unit) + chainLen t := by
  intro s
  induction s with
  | own c t0 deep => intro t; simp only [backSVs.go, chainLen]; omega
  | box c s ih => intro t; simp only [backSVs.go, chainLen]; omega
  | one s ih => intro t; exact ih t
  | clo f s ih => intro t; exact ih t
  | pair s s' ih ih' =>
    intro t
    simp only [backSVs.go]
    rw [ih (backSVs.go s' t), ih' t, ih (backSVs.go s' .unit)]
    omega
  | tup s s' ih ih' =>
    intro t
    simp only [backSVs.go]
    rw [ih (backSVs.go s' t), ih' t, ih (backSVs.go s' .unit)]
    omega
  | _ => intro t; simp [backSVs.go, chainLen]

theorem chain_drop : ∀ (bs : List Value) (sv : SV) (vs : List Value), CRep w S hv g true sv (bs ++ vs) → CRep w S hv g true (tupDrop bs.length sv) vs
  | [], sv, vs, h => by simpa [tupDrop] using h
  | b :: bs, sv, vs, h => by
    cases sv <;> simp only [CRep] at h
    · exact absurd h (by simp)
    · obtain ⟨p, r, h1, h2, h3⟩ := h
      simp only [List.cons_append, List.cons.injEq] at h1
      obtain ⟨rfl, rfl⟩ := h1
      exact chain_drop bs _ vs h3

theorem res_VR {sv : SV} {bs vs : List Value} (hc : CRep w S hv g true sv (bs ++ vs)) (hfl : ∀ n a b, tupDrop n sv = .tup a b → a ≠ .unit ∧ ∀ x y, a ≠ .tup x y) {n : Nat} (hn : n = bs.length) : VR w S hv g (resOf n sv) (if h : vs.toArray.size = 1 then vs.toArray[0] else .tuple vs.toArray) := by
  subst hn
  have h1 := chain_drop bs sv vs hc
  have h2 := hfl bs.length
  unfold resOf
  cases hd : tupDrop bs.length sv with
  | unit =>
    rw [hd] at h1
    simp only [CRep] at h1
    subst h1
    rfl
  | tup a b =>
    rw [hd] at h1 h2
    obtain ⟨h3, h4⟩ := h2 a b rfl
    have h1' := h1
    simp only [CRep] at h1
    obtain ⟨p, r, rfl, h5, h6⟩ := h1
    cases b <;> simp only [CRep] at h6
    · subst h6
      simp only [List.size_toArray, List.length_cons, List.length_nil, Nat.zero_add, dite_true, List.getElem_toArray, List.getElem_cons_zero]
      cases a with
      | dead => trivial
      | unit => exact absurd rfl h3
      | tup x y => exact absurd rfl (h4 x y)
      | _ => exact h5
    · obtain ⟨p2, r2, rfl, _⟩ := h6
      rw [dif_neg (by simp)]
      exact ⟨_, rfl, h1'⟩
  | _ => rw [hd] at h1; simp only [CRep] at h1

theorem VR_V0 {a : SV} {v : Value} (h : VR w S hv g a v) : V0 (CRep w S hv g false a) a v := by
  cases a with
  | dead => exact .inl rfl
  | unit => exact .inl rfl
  | tup x y => exact .inl rfl
  | _ => exact h

/-- what lies where a parameter's region lay -/
def Held (hv : Nat → Value) (g : Look) (e : Nat × Rg) : Prop := g e.1 ≠ none ∧ (hv e.1).oneCell' = true ∧ (∀ a, e.2 = .box a → ∃ b, hv e.1 = .pointer (some ⟨b, 0, none⟩))

theorem back_chain : ∀ (s : SS) (ds : List D) (r : Reb), reb s ds = some r → (∀ e ∈ r.rs, Held hv g e) → ∀ (t : SV) (vs : List Value), CRep w S hv g true t vs → ∃ bs : List Value, CRep w S hv g true (backSVs.go s t) (bs ++ vs) ∧ chainLen (backSVs.go s t) = bs.length + chainLen t := by
  intro s
  induction s with
  | own c t0 deep =>
    intro ds r h hh t vs ht
    cases ds with
    | nil => simp [reb] at h
    | cons d ds =>
      obtain ⟨u, x⟩ := d
      cases u <;> simp [reb] at h
      subst h
      obtain ⟨h1, h2, _⟩ := hh _ (List.mem_singleton.2 rfl)
      refine ⟨[hv c], ?_, by simp [backSVs.go, chainLen]; omega⟩
      simp only [backSVs.go, CRep, List.singleton_append]
      refine ⟨hv c, vs, rfl, .inr (.inr ⟨rfl, ?_⟩), ht⟩
      simp only [CRep]
      exact ⟨h1, h2, trivial⟩
  | box c s ih =>
    intro ds r h hh t vs ht
    simp only [reb] at h
    split at h <;> try (cases h; done)
    simp only [Option.some.injEq] at h
    subst h
    obtain ⟨h1, h2, h3⟩ := hh _ (List.mem_cons_self ..)
    obtain ⟨b, hb⟩ := h3 _ rfl
    refine ⟨[hv c], ?_, by simp [backSVs.go, chainLen]; omega⟩
    simp only at hb h1
    simp only [backSVs.go, CRep, List.singleton_append]
    refine ⟨hv c, vs, rfl, .inr (.inr ⟨rfl, ?_⟩), ht⟩
    simp only [CRep]
    refine ⟨h1, ?_, by rw [hb]; rfl, trivial⟩
    rw [hb]
    simp [adr, pathOff]
  | one s ih =>
    intro ds r h hh t vs ht
    simp only [reb] at h
    split at h <;> try (cases h; done)
    rename_i r1 h1
    simp only [Option.some.injEq] at h
    subst h
    exact ih ds r1 h1 hh t vs ht
  | clo f s ih =>
    intro ds r h hh t vs ht
    simp only [reb] at h
    split at h <;> try (cases h; done)
    rename_i r1 h1
    simp only [Option.some.injEq] at h
    subst h
    exact ih ds r1 h1 hh t vs ht
  | pair s s' ih ih' =>
    intro ds r h hh t vs ht
    simp only [reb] at h
    split at h <;> try (cases h; done)
    rename_i r1 h1
    split at h <;> try (cases h; done)
    rename_i r2 h2
    simp only [Option.some.injEq] at h
    subst h
    obtain ⟨bs2, k1, k2⟩ := ih' _ r2 h2 (fun e he => hh e (List.mem_append_right _ he)) t vs ht
    obtain ⟨bs1, k3, k4⟩ := ih _ r1 h1 (fun e he => hh e (List.mem_append_left _ he)) _ _ k1
    exact ⟨bs1 ++ bs2, by simpa [backSVs.go] using k3, by simp only [backSVs.go, k4, k2, List.length_append]; omega⟩
  | tup s s' ih ih' =>
    intro ds r h hh t vs ht
    simp only [reb] at h
    split at h <;> try (cases h; done)
    rename_i r1 h1
    split at h <;> try (cases h; done)
    rename_i r2 h2
    simp only [Option.some.injEq] at h
    subst h
    obtain ⟨bs2, k1, k2⟩ := ih' _ r2 h2 (fun e he => hh e (List.mem_append_right _ he)) t vs ht
    obtain ⟨bs1, k3, k4⟩ := ih _ r1 h1 (fun e he => hh e (List.mem_append_left _ he)) _ _ k1
    exact ⟨bs1 ++ bs2, by simpa [backSVs.go] using k3, by simp only [backSVs.go, k4, k2, List.length_append]; omega⟩
  | _ => intro ds r h hh t vs ht; exact ⟨[], by simpa [backSVs.go] using ht, by simp [backSVs.go]⟩

theorem tupApp_go : ∀ (s : SS) (t rs : SV), (t = .unit ∨ ∃ x y, t = .tup x y) → tupApp (backSVs.go s t) rs = backSVs.go s (tupApp t rs) ∧ (backSVs.go s t = .unit ∨ ∃ x y, backSVs.go s t = .tup x y) := by
  intro s
  induction s with
  | own c t0 deep => intro t rs ht; exact ⟨rfl, .inr ⟨_, _, rfl⟩⟩
  | box c s ih => intro t rs ht; exact ⟨rfl, .inr ⟨_, _, rfl⟩⟩
  | one s ih => intro t rs ht; exact ih t rs ht
  | clo f s ih => intro t rs ht; exact ih t rs ht
  | pair s s' ih ih' =>
    intro t rs ht
    obtain ⟨h1, h2⟩ := ih' t rs ht
    obtain ⟨h3, h4⟩ := ih (backSVs.go s' t) rs h2
    exact ⟨by simp only [backSVs.go, h3, h1], h4⟩
  | tup s s' ih ih' =>
    intro t rs ht
    obtain ⟨h1, h2⟩ := ih' t rs ht
    obtain ⟨h3, h4⟩ := ih (backSVs.go s' t) rs h2
    exact ⟨by simp only [backSVs.go, h3, h1], h4⟩
  | _ => intro t rs ht; exact ⟨rfl, ht⟩

theorem results_sound (hf : Fit P H) {n : Nat} {s : St} {a : Act} (hr : Rel n B s a w S hv F) : ∀ (l : List ResultVar) (rs : SV), resultSVs H s l = some rs → ∃ vs : List Value, (l.mapM (m := Sem) fun
    | .tmp t => pure (a.tmps.getD t undef)
    | .cell x T => do loadVar T (← asAddr (a.tmps.getD x undef))).run P w = .ok vs w ∧ CRep w S hv s.reg true rs vs
  | [], rs, h => by
    simp only [resultSVs, Option.some.injEq] at h
    subst h
    exact ⟨[], by simp, by simp only [CRep]⟩
  | .tmp t :: l, rs, h => by
    simp only [resultSVs] at h
    split at h
    · rename_i r h1
      simp only [Option.some.injEq] at h
      subst h
      obtain ⟨vs, h2, h3⟩ := results_sound hf hr l r h1
      refine ⟨a.tmps.getD t undef :: vs, ?_, ?_⟩
      · rw [List.mapM_cons]
        simp only [Sem.run_bind, Sem.run_pure, Result.andThen_ok, h2]
      · simp only [CRep]
        exact ⟨_, vs, rfl, VR_V0 (hr.sl t), h3⟩
    · cases h
  | .cell t T :: l, rs, h => by
    simp only [resultSVs] at h
    split at h
    · rename_i c q r hs h1
      split at h
      · rename_i b hb
        split at h
        · rename_i x hx
          split at h
          · rename_i hchk
            simp only [Bool.and_eq_true, decide_eq_true_eq] at hchk
            simp only [Option.some.injEq] at h
            subst h
            obtain ⟨vs, h2, h3⟩ := results_sound hf hr l r h1
            have hv0 := hr.sl t
            rw [hs, VR_cell rfl] at hv0
            simp only [CRep, List.cons.injEq, and_true] at hv0
            obtain ⟨_, hv1, _, _⟩ := hv0
            have hg := hr.inv.rep _ _ hb
            simp only [GRep] at hg
            obtain ⟨bl, arr, Tb, g1, g2, g3, g4⟩ := hg
            obtain ⟨c1, c2, c3, e1, e2, e3⟩ := CRep_get q b x _ hx g4
            rw [g1] at hv1
            have hv2 : a.tmps.getD t undef = .pointer (some ⟨bl, 0 + pathOff q, none⟩) := hv1
            have hrd : rd w bl 0 (c1 ++ (c2 ++ c3)) := by
              intro j u hj
              rw [← e1] at hj
              simp only [Nat.zero_add, World.cell?, g2]
              simpa using hj
            have hrd2 := rd_mid hrd
            rw [e2] at hrd2
            obtain ⟨xx, hxx⟩ : ∃ xx, x.ag = some xx := Option.ne_none_iff_exists'.1 hchk.2
            have hag : agOf H T = some xx := by rw [← hchk.1, hxx]
            obtain ⟨s1, s2, s3⟩ := ag_spec hxx
            obtain ⟨v, k1, k2⟩ := run_loadVar (w := w) hf (ag := xx.1) (n := xx.2) hag hrd2 (by rw [CRep_length _ _ e3, s2]) (fun h0 => ag_one hxx h0)
            refine ⟨v :: vs, ?_, ?_⟩
            · rw [List.mapM_cons]
              have haddr : ∀ A, asAddr (.pointer (some A)) = (pure A : Sem Addr) := fun _ => rfl
              simp only [Sem.run_bind, hv2, haddr, Sem.run_pure, Result.andThen_ok, k1, h2]
            · simp only [CRep]
              exact ⟨v, vs, rfl, VR_V0 (VR_of_cells hxx k2 e3), h3⟩
          · cases h
        · cases h
      · cases h
    · cases h

theorem held_of (hI : Inv w S hv F g) {r : Reb} (hrb : ∀ e ∈ r.rs, e.2.isRB = true) (hnd : (r.rs.map (·.1)).Nodup) (hg : g = updReg (fun _ => none) r.rs) {w1 : World} {S1 : Nat → Prop} {hv1 : Nat → Value} {F1 : Nat → Nat → Prop} {g1 : Look} (hs : Step' w S hv F g w1 S1 hv1 F1 g1) : ∀ e ∈ r.rs, Held hv1 g1 e := by
  intro e he
  have h0 : g e.1 = some e.2 := by rw [hg]; exact updReg_mem hnd he
  have h1 : g e.1 ≠ none := by rw [h0]; simp
  have hr := hI.rep _ _ h0
  have hh := hs.ext.hv _ h1
  refine ⟨hs.ext.used _ h1, ?_, fun a ha => ?_⟩
  · rw [hh]
    have hk := hrb e he
    obtain ⟨c, rg⟩ := e
    cases rg <;> simp [Rg.isRB] at hk
    · simp only [GRep] at hr
      rcases RowB_hdr hr with ⟨_, _, h⟩ | ⟨_, _, b, o, cap, h, _⟩ <;> rw [h] <;> rfl
    · simp only [GRep] at hr
      obtain ⟨b, arr, T, h, _⟩ := hr
      rw [h]; rfl
    · simp only [GRep] at hr
      obtain ⟨_, b, arr, clk, h, _⟩ := hr
      rw [h]; rfl
  · rw [hh]
    rw [ha] at hr
    simp only [GRep] at hr
    obtain ⟨b, arr, T, h, _⟩ := hr
    exact ⟨b, h⟩

/-- a function that is left: its marks are shut -/
theorem leave_marks {fn : Func} {tmps : Array Value} {R : Ending → World → Prop} {u : FrameMode} (hu : u ≠ .run) : ∀ (ds : List Deferred) {w1 : World} {F1 : Nat → Nat → Prop}, Step' w S hv F g w1 S' hv' F1 g' → Marks w1 F1 w.heap.size ds →
    (∀ w2 F2, Step' w S hv F g w2 S' hv' F2 g' → Ext w1 S' hv' g' w2 S' hv' g' → (∀ c b, F2 c b → F1 c b) → w2.heap.size = w1.heap.size → LeavesIn (Fw none) 0 P fn tmps R [] u w2) → LeavesInM (Fw none) 0 P fn tmps R ds u w1
  | [], w1, F1, hs, hm, hK => hK w1 F1 hs Ext.refl (fun _ _ h => h) rfl
  | d :: ds, w1, F1, hs, hm, hK => by
    obtain ⟨m1, m2, m3⟩ := hm
    obtain ⟨D, e1, e2, e3, e4⟩ := m3 d (by simp)
    have hx := ext_turn (S := S') (hv := hv') (g := g') (.deferred none) e3 rfl
    refine ⟨hu, .inl ⟨D, _, e1, run_takeDeferred e3, ?_⟩⟩
    refine leave_marks hu ds (hs.turn (.deferred none) e3 rfl e2) ?_ fun w2 F2 h1 h2 h3 h4 => hK w2 F2 h1 (hx.trans h2) (fun c b hb => (h3 c b hb).1) (by rw [h4, World.putObj_size])
    refine Marks.turn (F := F1) ⟨m1, (List.pairwise_cons.1 m2).2, fun d' hd' => m3 d' (List.mem_cons_of_mem _ hd')⟩ (.deferred none) e3 (fun d' hd' h => ?_) fun c b hb => ⟨c, hb.1⟩
    exact (List.pairwise_cons.1 m2).1 d' hd' (by rw [e1, h])

/-- the contracts of the functions that are known by them -/
def NatOk (P : Program) (H : Hints) : Prop := ∀ key h f x y, H.key key = some h → h.nat = some f → natFun H h f key x = some y → CallOk P H key x y

theorem fun_sound (hf : Fit P H) (hn : NatOk P H) {p : Fns H} (hp : Good P H p) {key : Nat} {x : Den (tyOf (aTys H key))} {y : Den (tyOf (rTys H key))} (he : evFun H p key x = some y) : CallOk P H key x y := by
  intro h hk
  unfold evFun at he
  rw [hk] at he
  simp only at he
  cases hnat : h.nat with
  | some f' => rw [hnat] at he; exact hn key h f' x y hk hnat he h hk
  | none =>
  rw [hnat] at he
  simp only at he
  split at he
  · rename_i c r hbody hreb hchk
    have hchk := Bool.and_eq_true_iff.1 hchk
    have hchk2 := Bool.and_eq_true_iff.1 hchk.2
    have hchk3 := Bool.and_eq_true_iff.1 hchk2.2
    rw [M.run_bind] at he
    obtain ⟨⟨ex, s2⟩, hev, he⟩ := Option.bind_eq_some_iff.1 he
    obtain ⟨hkf, hks, hkn⟩ := hf.fn key h hk
    obtain ⟨q1, q2⟩ := reb_kinds _ _ _ hreb
    have hndp := nodupB_spec hchk.1
    have hfin : ex = .normal ∨ ex = .ret := by
      cases ex with
      | normal => exact .inl rfl
      | ret => exact .inr rfl
      | exit m => simp [M.run] at he
    have he2 : (match resultSVs H s2 h.f.results.toList with
          | some rs => (ext (s2.settle [tupApp (backSVs h.pars) rs]).reg h.outs (tupApp (backSVs h.pars) rs) ⟨[], []⟩).bind fun q =>
            (match q.2.ok && placeOk h.pars.ids h.outs.ids q.2, pack (rTys H key) q.1 with
            | true, some y => .ret y
            | _, _ => .fail)
          | none => .fail : M (Den (tyOf (rTys H key)))).run = some y := by
      rcases hfin with rfl | rfl <;> exact he
    clear he
    split at he2
    · rename_i rs hrs
      rw [M.run_bind] at he2
      obtain ⟨⟨ds, acc⟩, hext, he2⟩ := Option.bind_eq_some_iff.1 he2
      split at he2
      · rename_i y' hok hpk
        have hok := Bool.and_eq_true_iff.1 hok
        have hy : y = y' := (Option.some.inj he2).symm
        subst hy
        have hun := unpack_pack _ _ _ hpk
        have hch : h.outs.isChain = true := by
          have := hchk3.1
          cases ho : h.outs <;> rw [ho] at this <;> simp [flatC] at this <;> rfl
        have hany : h.outs.isAny = false := by cases ho : h.outs <;> rw [ho] at hch <;> first | rfl | simp [SS.isChain] at hch
        obtain ⟨hno, hpl⟩ := placeOk_spec hok.2
        refine ⟨r, hreb, hndp, hno, flatC_chain hchk2.1, fun w S hv F vs hI hc => ?_⟩
        refine callsIn_Fw.1 (callsIn_of_wp_marks (F := Fw none) (n := 0) hkf hbody trivial ?_)
        have hrel : Rel h.f.ntmps w.heap.size ({ slot := slotsOf (argSlots 0 r.sv) fun _ => .dead, reg := updReg (fun _ => none) r.rs } : St) { tmps := vs.toArray ++ Array.replicate (h.f.ntmps - vs.toArray.size) undef, defers := [] } w S hv F := by
          refine ⟨hI, fun i => ?_, Marks.nil (Nat.le_refl _), by simp; omega⟩
          show VR w S hv (updReg (fun _ => none) r.rs) (slotsOf (argSlots 0 r.sv) (fun _ => .dead) i) _
          rcases slotsOf_spec (fun _ => .dead) i (argSlots 0 r.sv) with ⟨e, h1, h2, h3⟩ | ⟨_, h2⟩
          · rw [h3]
            subst h2
            obtain ⟨v, h4, _, h5⟩ := argSlots_spec _ _ 0 hc e h1
            rw [Nat.sub_zero] at h4
            have hlt : e.1 < vs.length := (List.getElem?_eq_some_iff.1 h4).1
            have hv0 : (vs.toArray ++ Array.replicate (h.f.ntmps - vs.toArray.size) undef).getD e.1 undef = v := by
              rw [Array.getD_eq_getD_getElem?, Array.getElem?_append]
              simp [hlt]
              rw [List.getElem?_eq_getElem hlt] at h4
              simpa using h4
            rw [hv0]
            obtain ⟨n, b, h6⟩ := argSlots_drop _ 0 e h1
            obtain ⟨h7, h8⟩ := (flatC_spec _ _ _ hchk2.1 hreb).2 n e.2 b h6
            exact V0_VR h7 h8 h5
          · rw [h2]; trivial
        have hwp := ev_sound (ro := none) hf hp.1 hp.2 hk c (.inl rfl) hrel hev
        refine wpIn_mono hwp ?_
        rintro e a2 w3 ⟨rfl, S2, hv2, F3, y1, y2, _⟩
        have y2 : Step' w S hv F (updReg (fun _ => none) r.rs) w3 S2 hv2 F3 s2.reg := y2
        suffices hgo : LeavesInM (Fw none) 0 P h.f a2.tmps (fun e w' => ∃ v s, e = .returned v ∧ reb h.outs (unpack (rTys H key) y) = some s ∧ ∃ S' hv' F', Ends w S hv F (updReg (fun _ => none) r.rs) w' S' hv' F' (updReg (fun _ => none) s.rs) ∧ VR w' S' hv' (updReg (fun _ => none) s.rs) (resOf h.bk.length s.sv) v) a2.defers .returning w3 by
          rcases hfin with rfl | rfl <;> exact hgo
        refine leave_marks (by simp) a2.defers y2 y1.df fun w2 F2 t2 hx hsub hsz => ?_
        have t1 : Rel h.f.ntmps w.heap.size s2 { a2 with defers := [] } w2 S2 hv2 F2 := ⟨t2.inv, fun i => VR_mono hx _ _ (y1.sl i), Marks.nil t2.sz, y1.sz⟩
        have t2 : Step' w S hv F (updReg (fun _ => none) r.rs) w2 S2 hv2 F2 s2.reg := t2
        obtain ⟨S3, hv3, F3, u1, u2, _⟩ := t1.settle [tupApp (backSVs h.pars) rs]
        obtain ⟨rvs, v1, v2⟩ := results_sound hf t1 _ _ hrs
        have v3 := CRep_mono u2.ext _ _ _ v2
        have hstep := t2.trans u2
        obtain ⟨bs, b1, b2⟩ := back_chain h.pars _ r hreb (held_of hI q2 (by rw [q1]; exact hndp) rfl hstep) rs rvs v3
        have hgo : tupApp (backSVs h.pars) rs = backSVs.go h.pars rs := (tupApp_go h.pars .unit rs (.inl rfl)).1
        have hlen : h.bk.length = bs.length := by
          have h1 : h.bk.length = chainLen (backSVs.go h.pars .unit) := eq_of_beq hchk3.2
          have h2 := go_len h.pars rs
          omega
        have t := ext_down u1.inv (fun _ _ h => h) h.outs _ ⟨[], []⟩ acc ds (bs ++ rvs) hext hno hany (by rw [hch]; rw [← hgo] at b1; exact b1)
        rw [hch] at t
        obtain ⟨sv, rs', al, fl, m1, _, m3⟩ := t
        have m1' := m1 []
        rw [List.append_nil] at m1'
        have hids : ∀ c, updReg (fun _ => none) r.rs c ≠ none → c ∈ h.pars.ids := by
          intro c hcc
          obtain ⟨q, hq⟩ := Option.ne_none_iff_exists'.1 hcc
          rw [← q1]
          rcases updReg_some hq with h | ⟨_, h⟩
          · exact List.mem_map.2 ⟨_, h, rfl⟩
          · cases h
        obtain ⟨S4, hE, hR⟩ := ends_of hstep m3 hok.1 hok.2 hids
        have hres : (results h.f a2.tmps).run P w2 = .ok (if hh : rvs.toArray.size = 1 then rvs.toArray[0] else .tuple rvs.toArray) w2 := by
          unfold results
          simp only [Sem.run_bind]
          rw [Array.mapM_eq_mapM_toList]
          simp only [Sem.run_map, Sem.run_bind]
          refine (congrArg (fun z : Result (List Value) => (z.andThen fun a w' => Result.ok a.toArray w').andThen fun (a : Array Value) w' => Sem.run P (pure (if h : a.size = 1 then a[0] else Value.tuple a)) w') v1).trans ?_
          rfl
        exact ⟨_, hres, _, ⟨sv, rs', []⟩, rfl, by rw [hun]; exact m1', S4, al, fl, hE, res_VR hR (flatC_spec _ _ _ hchk3.1 m1').2 hlen⟩
      · simp [M.run] at he2
    · simp [M.run] at he2
  · cases he

/-- WHATEVER THE EVALUATOR SAYS IS SO -/
theorem lev_sound (hf : Fit P H) (hn : NatOk P H) : ∀ k, Good P H (lev H k) := by
  intro k
  induction k using Nat.strongRecOn with
  | _ k ih =>
    refine ⟨fun key x y hy => ?_, fun key n c x y hy => loop_sound hf ih hy⟩
    cases k with
    | zero => simp [lev] at hy
    | succ j => exact fun_sound hf hn (ih j (by omega)) hy
end
end Go.Rf
