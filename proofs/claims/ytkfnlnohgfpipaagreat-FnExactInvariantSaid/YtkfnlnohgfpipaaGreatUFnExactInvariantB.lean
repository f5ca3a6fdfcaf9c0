/- The plain law of FnExactInvariant: what the two functions compute is the same. -/
import Derived.Test.YtkfnlnohgfpipaaGreatUFnExactInvariantA
import Derived.Laws.MathBits
set_option linter.all false
namespace Go.Proofs.YtkfnlnohgfpipaaGreat.R
open Go.Rf
theorem Q27 {p : DProgram} {v : List Int} (h : Sees p v) : ∀ l ∈ Q1n p v, l.length ≤ 40 := by
  intro l hl
  obtain ⟨c, _, rfl⟩ := Kt.1 hl
  exact Q6p h _
theorem Q1q {α : Type} (A : List α) (g : α → Bool) : (A.map fun l => (g l, l)).map Prod.snd = A := by
  rw [List.map_map]
  exact List.map_id'' (fun _ => rfl) A
/-- the states that can come at each place of a path of classes -/
noncomputable def Qi (p : DProgram) (v : List Int) : List Int → List Int → List (List Int)
  | _, [] => []
  | now, c :: path => (now.filter fun s => v.getD s.toNat 0 == c) :: Qi p v (Qq ((now.filter fun s => v.getD s.toNat 0 == c).flatMap (Q9 p))) path
theorem Qf (p : DProgram) (v : List Int) (path : List Int) : ∀ now, (Qi p v now path).length = path.length := by
  induction path with
  | nil => intro now; rfl
  | cons c path ih => intro now; simp [Qi, ih]
/-- numbers of states, few enough -/
def InS (p : DProgram) (l : List Int) : Prop := l.length ≤ Q0 p ∧ ∀ x ∈ l, 0 ≤ x ∧ x < (Q0 p : Int)
theorem InS.filter {p : DProgram} {l : List Int} (h : InS p l) (q : Int → Bool) : InS p (l.filter q) := ⟨Kx (K1q _ _) h.1, fun x hx => h.2 x (K1m.1 hx).1⟩
theorem InS.next {p : DProgram} {l : List Int} (hok : Ok p) (h : InS p l) : InS p (Qq (l.flatMap (Q9 p))) := by
  have hx : ∀ x ∈ Qq (l.flatMap (Q9 p)), 0 ≤ x ∧ x < (Q0 p : Int) := fun x hx => Q1y hok l h.2 x ((Qh _ x).1 hx)
  exact ⟨Q25 (Qo _) hx, hx⟩
theorem Q6t {p : DProgram} (hok : Ok p) (v : List Int) (path : List Int) : ∀ now, InS p now → ∀ l ∈ Qi p v now path, InS p l := by
  induction path with
  | nil => intro now _ l hl; cases hl
  | cons c path ih =>
    intro now hn l hl
    rcases Kd.1 hl with rfl | hl
    · exact hn.filter _
    · exact ih _ ((hn.filter _).next hok) l hl
theorem Q3b {p : DProgram} (t : List DNode) : InS p (Q3 p t 0 (Q0 p)) := ⟨Qg p t 0 (Q0 p), fun x hx => (Ql.1 hx).1⟩
/-! the reference -/
theorem Q8j {p : DProgram} {v : List Int} (h : Sees p v) (f : Bool) (out : Bool × List (Bool × List Int)) (c : Int) (t18 : Bool × List Int) (t19 t20 : Int) (l : Bool × List Int) (hl : InS p l.2) (d : Nat) : ∀ (i : Nat) (o : List Int), i + d = l.2.length → o.length ≤ i →
    F63 p (f, v) out c (o.isEmpty, o) t18 t19 t20 l (l.2.length : Int) (i : Int) = some ((o ++ (l.2.drop i).filter fun s => v.getD s.toNat 0 == c).isEmpty, o ++ (l.2.drop i).filter fun s => v.getD s.toNat 0 == c) := by
  have hlim := J7
  have hms := Q6 h.ok.sml
  have hlen := h.len
  have hl1 := hl.1
  induction d with
  | zero =>
    intro i o hi ho
    rw [F63E, gF (by omega), Ka (by omega)]
    simp
  | succ d ih =>
    intro i o hi ho
    have hlt : i < l.2.length := by omega
    have hx := hl.2 _ (K4 hlt)
    rw [F63E, gT (by omega), gT (by omega), gT (by omega), J2 l.2 _ i hlt, gT hx.1, gT (by simp only; omega), up1 i (by omega), K3 hlt, K1l]
    simp only
    cases hh : (v.getD (Int.toNat l.2[i]) 0 == c) with
    | true =>
      have e := ih (i + 1) (o ++ [l.2[i]]) (by omega) (by simp; omega)
      have e0 : (o ++ [l.2[i]]).isEmpty = false := by simp
      rw [e0] at e
      rw [cond_true, gT (by simp; omega), J1, K1r, e]
      simp
    | false =>
      rw [cond_false, J1, ih (i + 1) o (by omega) (by omega)]
      simp
theorem Q8i {p : DProgram} {v : List Int} (h : Sees p v) (f : Bool) (path : Bool × List Int) (hp : path.2.length ≤ 1048576) (d : Nat) : ∀ (i : Nat) (b fn : Bool) (o : List (Bool × List Int)) (now : List Int), i + d = path.2.length → o.length ≤ i → InS p now →
    ∃ b', F7j p (f, v) (b, o) (fn, now) path (path.2.length : Int) (i : Int) = some (b', o ++ (Qi p v now (path.2.drop i)).map fun l => (l.isEmpty, l)) := by
  have hlim := J7
  have hms := Q6 h.ok.sml
  induction d with
  | zero =>
    intro i b fn o now hi ho hn
    rw [F7jE, gF (by omega), Ka (by omega)]
    exact ⟨b, by simp [Qi]⟩
  | succ d ih =>
    intro i b fn o now hi ho hn
    have hlt : i < path.2.length := by omega
    have e := Q8j h f (b, o) (path.2[i]) path (path.2.length : Int) (i : Int) (fn, now) hn now.length 0 [] (by simp) (by simp)
    have e' : F63 p (f, v) (b, o) (path.2[i]) (true, []) path (path.2.length : Int) (i : Int) (fn, now) (now.length : Int) 0 = _ := e
    rw [Kv, Kg] at e'
    have hn2 := hn.filter (fun s => v.getD s.toNat 0 == path.2[i])
    obtain ⟨b2, e2⟩ := Qc4 h.ok ((now.filter fun s => v.getD s.toNat 0 == path.2[i]).isEmpty, now.filter fun s => v.getD s.toNat 0 == path.2[i]) (by have := hn2.1; simp only; omega) hn2.2
    obtain ⟨b', g⟩ := ih (i + 1) (b && false) b2 (o ++ [((now.filter fun s => v.getD s.toNat 0 == path.2[i]).isEmpty, now.filter fun s => v.getD s.toNat 0 == path.2[i])]) _ (by omega) (by simp; omega) (hn2.next h.ok)
    refine ⟨b', ?_⟩
    rw [F7jE, gT (by omega), gT (by omega), gT (by omega), J2 path.2 _ i hlt]
    simp only [e', J0]
    rw [gT (by simp; omega), e2, J0, up1 i (by omega), J1, g, K3 hlt, Qi]
    simp
theorem Q6k {p : DProgram} {v : List Int} (h : Sees p v) (f : Bool) (path : Bool × List Int) (hp : path.2.length ≤ 1048576) : ∃ b, Fu p (f, v) path = some (b, (Qi p v (Q3 p p.2.2.1.2 0 (Q0 p)) path.2).map fun l => (l.isEmpty, l)) := by
  have hg := h.ok.good
  have hk : Q1 p.1 p.2.1 p.2.2.1.2 ≠ 0 := by
    simp only [Q4, K5, beq_iff_eq] at hg
    rw [hg.1]
    decide
  obtain ⟨b1, e1⟩ := Q42 h.ok.sml p.2.2.1 h.ok.wf.1 hk
  obtain ⟨b2, e2⟩ := Q8i h f path hp path.2.length 0 true b1 [] _ (by omega) (by simp) (Q3b p.2.2.1.2)
  have e2' : F7j p (f, v) (true, []) (b1, Q3 p p.2.2.1.2 0 (Q0 p)) path (path.2.length : Int) 0 = _ := e2
  rw [FuE, e1, J0]
  simp only [e2', J0, Kv, Kg]
  exact ⟨b2, rfl⟩
/-! the program -/
theorem Qfi {p : DProgram} (hp : Sml p) (t : Bool × List DNode) (hx : WfN t.2) (hk : Q1 p.1 p.2.1 t.2 ≠ 0) : F1g p t = some (false, Q3 p t.2 0 (Q0 p)) := by
  have hm := Q6 hp
  have hlim := J7
  have key : ∀ (d i : Nat) (out : List Int), i + d = Q0 p → out.length ≤ i → F68 t p (false, out) (Q0 p : Int) (i : Int) = some (false, out ++ Q3 p t.2 i d) := by
    intro d
    induction d with
    | zero =>
      intro i out hi ho
      rw [F68E, gF (by omega)]
      simp [Q3]
    | succ d ih =>
      intro i out hi ho
      rw [F68E, gT (by omega), Q52 hp _ (by omega), J0, (Q3k hp t hx hk _ _).2, J0, Q38, up1 i (by omega)]
      cases hh : Qc p t.2 (i : Int) with
      | true => rw [cond_true, gT (by simp; omega), J1, K1r, ih (i + 1) _ (by omega) (by simp; omega)]; simp
      | false => rw [cond_false, J1, ih (i + 1) out (by omega) (by omega)]; simp
  have g := key (Q0 p) 0 [] (by omega) (by simp)
  have g' : F68 t p (false, []) (Q0 p : Int) 0 = _ := g
  rw [F1gE, Q13 hp, J0, g', J0]
  rfl
theorem Qbo {p : DProgram} (h : Ok p) : F2k p = some (false, (List.range (Q0 p)).map fun s : Nat => (false, Q9 p (s : Int))) := by
  have hm := Q6 h.sml
  have hlim := J7
  have key : ∀ (d i : Nat) (o : List (Bool × List Int)), i + d = Q0 p → o.length = i → F8p p (false, o) (Q0 p : Int) (i : Int) = some (false, o ++ (List.range' i d).map fun s : Nat => (false, Q9 p (s : Int))) := by
    intro d
    induction d with
    | zero =>
      intro i o hi ho
      rw [F8pE, gF (by omega)]
      simp
    | succ d ih =>
      intro i o hi ho
      rw [F8pE, gT (by omega), Qcc h _ (by omega), J0, gT (by simp; omega), up1 i (by omega), J1, K1r, ih (i + 1) _ (by omega) (by simp; omega), K1a]
      simp
  have g := key (Q0 p) 0 [] (by omega) rfl
  have g' : F8p p (false, []) (Q0 p : Int) 0 = _ := g
  rw [F2kE, Q13 h.sml, J0, g', J0, K1e]
  rfl
/-- the successors of each state, as the program keeps them -/
noncomputable def Qy (p : DProgram) : List (Bool × List Int) := (List.range (Q0 p)).map fun s : Nat => (false, Q9 p (s : Int))
theorem Q28 (p : DProgram) : (Qy p).length = Q0 p := by simp [Qy]
theorem Q4u {p : DProgram} {no : Int} (hn : 0 ≤ no ∧ no < (Q0 p : Int)) : (Qy p).getD no.toNat (true, []) = (false, Q9 p no) := by
  have h : no.toNat < Q0 p := by omega
  have e : ((no.toNat : Nat) : Int) = no := Int.toNat_of_nonneg hn.1
  rw [Qy, K1, K1o, List.getElem?_range h]
  simp [e]
theorem Qd2 {p : DProgram} (v : DSight) (out nx : Bool × List (Bool × List Int)) (c : Int) (t24 : Bool × List Int) (t25 t26 : Int) (t36 : Bool × List Int) (t37 t38 : Int) (m : Nat) (r : Bool × List Int) (hr : r.2.length ≤ 1048576) (hi : ∀ x ∈ r.2, 0 ≤ x ∧ x < (m : Int)) (d : Nat) : ∀ (i : Nat) (t : List Bool), i + d = r.2.length → t.length = m →
    ∃ t', t'.length = m ∧ (∀ j < m, t'.getD j false = (t.getD j false || decide ((j : Int) ∈ r.2.drop i))) ∧ F7x p v out nx c (false, t) t24 t25 t26 t36 t37 t38 r (r.2.length : Int) (i : Int) = some (false, t') := by
  induction d with
  | zero =>
    intro i t hid ht
    refine ⟨t, ht, fun j _ => ?_, by rw [F7xE, gF (by omega)]⟩
    rw [Ka (by omega)]
    simp
  | succ d ih =>
    intro i t hid ht
    have hlt : i < r.2.length := by omega
    have hx := hi _ (K4 hlt)
    obtain ⟨t', h1, h2, h3⟩ := ih (i + 1) (t.set (Int.toNat r.2[i]) true) (by omega) (by rw [Ku]; exact ht)
    refine ⟨t', h1, fun j hj => ?_, ?_⟩
    · rw [h2 j hj, K3 hlt]
      by_cases cj : (j : Int) = r.2[i]
      · have e1 : Int.toNat r.2[i] = j := by omega
        have h5 : decide ((j : Int) ∈ r.2[i] :: r.2.drop (i + 1)) = true := decide_eq_true (by rw [← cj]; exact Kp)
        rw [h5, e1, Q18 t j true false (by omega), Bool.true_or, Bool.or_true]
      · have hne : Int.toNat r.2[i] ≠ j := by omega
        have e2 : (t.set (Int.toNat r.2[i]) true).getD j false = t.getD j false := by
          rw [K1, List.getElem?_set_ne hne, K1]
        rw [e2]
        congr 1
        exact decide_eq_decide.mpr ⟨K8 _, fun h => (Kd.1 h).resolve_left cj⟩
    · rw [F7xE, gT (by omega), gT (by omega), gT (by omega), J2 r.2 _ i hlt, gT hx.1, gT (by simp only; omega), up1 i (by omega), J1, h3]
theorem Qd1 {p : DProgram} (h : Ok p) (v : DSight) (out : Bool × List (Bool × List Int)) (c : Int) (t24 : Bool × List Int) (t25 t26 : Int) (l : Bool × List Int) (hl : InS p l.2) (d : Nat) : ∀ (i : Nat) (t : List Bool), i + d = l.2.length → t.length = Q0 p →
    ∃ t', t'.length = Q0 p ∧ (∀ j < Q0 p, t'.getD j false = (t.getD j false || decide ((j : Int) ∈ (l.2.drop i).flatMap (Q9 p)))) ∧ Fa8 p v out (false, Qy p) c (false, t) t24 t25 t26 l (l.2.length : Int) (i : Int) = some (false, t') := by
  have hms := Q6 h.sml
  have hl1 := hl.1
  have hg := Q28 p
  induction d with
  | zero =>
    intro i t hid ht
    refine ⟨t, ht, fun j _ => ?_, by rw [Fa8E, gF (by omega)]⟩
    rw [Ka (by omega)]
    simp
  | succ d ih =>
    intro i t hid ht
    have hlt : i < l.2.length := by omega
    have hx := hl.2 _ (K4 hlt)
    have hnl := Qd h hx
    obtain ⟨t1, g1, g2, g3⟩ := Qd2 v out (false, Qy p) c t24 t25 t26 l (l.2.length : Int) (i : Int) (Q0 p) (false, Q9 p l.2[i]) (by simp only; omega) (Q2x h hx) (Q9 p l.2[i]).length 0 t (by simp) ht
    have g3' : F7x p v out (false, Qy p) c (false, t) t24 t25 t26 l (l.2.length : Int) (i : Int) (false, Q9 p l.2[i]) ((Q9 p l.2[i]).length : Int) 0 = _ := g3
    obtain ⟨t', h1, h2, h3⟩ := ih (i + 1) t1 (by omega) g1
    refine ⟨t', h1, fun j hj => ?_, ?_⟩
    · rw [h2 j hj, g2 j hj, Kg, K3 hlt, K13, Bool.or_assoc]
      congr 1
      rw [← Bool.decide_or]
      exact decide_eq_decide.mpr Kh.symm
    · rw [Fa8E, gT (by omega), gT (by omega), gT (by omega), J2 l.2 _ i hlt, gT hx.1, gT (by simp only; omega)]
      simp only [Q4u hx, g3', J0]
      rw [up1 i (by omega), J1, h3]
theorem Q3t {p : DProgram} {v : List Int} (h : Sees p v) (f : Bool) (c no : Int) (hn : 0 ≤ no ∧ no < (Q0 p : Int)) : F4n no (f, v) c = some (!(v.getD no.toNat 0 == c)) := by
  have := h.len
  rw [F4nE, gT hn.1, gT (by simp only; omega)]
  rfl
theorem Q48 {p : DProgram} {v : List Int} (h : Sees p v) (f : Bool) (c : Int) (l : Bool × List Int) (hl : l.2.length ≤ 1048576) (hn : ∀ x ∈ l.2, 0 ≤ x ∧ x < (Q0 p : Int)) : F1u l ((f, v), (c, ())) = some (l.1, l.2.filter fun s => v.getD s.toNat 0 == c) := by
  have hX := Ja l.2 (fun s => !(v.getD s.toNat 0 == c)) (fun i => F99 l ((f, v), (c, ())) (l.2.length : Int) i) (fun i hi => by
    rw [F99E, gT (by omega), gT (by omega), gT (by omega), J2 l.2 _ i hi, Q3t h f c _ (hn _ (K4 hi)), J0, up1 i (by omega), J1]) (by rw [F99E, gF (by omega)])
  have e : l.2.filter (fun s => v.getD s.toNat 0 == c) = l.2.filter (fun s => !!(v.getD s.toNat 0 == c)) := by
    congr 1
    funext x
    rw [Bool.not_not]
  rw [F1uE, F2pE, e]
  exact Q4r (f := l.1) (fun x => 0 ≤ x ∧ x < (Q0 p : Int)) (fun s i j => F6e s ((f, v), (c, ())) i j) hl hn (fun s i j hij hj hn2 hP => by
    rw [F6eE, gT (by simp only; omega), gT (by omega), gT (by simp only; omega), J2 s _ j hj, Q3t h f c _ (hP _ (K4 hj)), J0, gT (by omega), gT (by simp only; omega), up1 j (by omega), up1 i (by omega), J1, J1, K7]) (fun s i hn => by rw [F6eE, gF (by simp only; omega)]) hX
/-- the Qek states, read off -/
theorem Q7z {p : DProgram} (h : Ok p) (now : List Int) (hn : InS p now) (t : List Bool) (h1 : t.length = Q0 p) (h2 : ∀ j < Q0 p, t.getD j false = decide ((j : Int) ∈ now.flatMap (Q9 p))) : F1y (false, t) = some (false, Qq (now.flatMap (Q9 p))) := by
  have hms := Q6 h.sml
  rw [Qek (false, t) (by simp only; omega)]
  congr 2
  symm
  rw [show ((false, t) : Bool × List Bool).2.length = Q0 p from h1]
  refine Q2d _ (Qo _) (Q0 p) (fun x hx => Q1y h now hn.2 x ((Qh _ x).1 hx)) _ (fun i hi => ?_)
  rw [h2 i hi]
  exact decide_eq_decide.mpr (Qh _ _).symm
theorem Qd0 {p : DProgram} {v : List Int} (h : Sees p v) (f : Bool) (path : Bool × List Int) (hp : path.2.length ≤ 1048576) (d : Nat) : ∀ (i : Nat) (o : List (Bool × List Int)) (now : List Int), i + d = path.2.length → o.length ≤ i → InS p now →
    F4z p (f, v) (false, o) (false, Qy p) (false, now) path (path.2.length : Int) (i : Int) = some (false, o ++ (Qi p v (if i = 0 then now else Qq (now.flatMap (Q9 p))) (path.2.drop i)).map fun l => (false, l)) := by
  have hlim := J7
  have hms := Q6 h.ok.sml
  induction d with
  | zero =>
    intro i o now hi ho hn
    rw [F4zE, gF (by omega), Ka (by omega)]
    simp [Qi]
  | succ d ih =>
    intro i o now hi ho hn
    have hlt : i < path.2.length := by omega
    have hn1 := hn.1
    rw [F4zE, gT (by omega), gT (by omega), gT (by omega), J2 path.2 _ i hlt, K3 hlt, Qi, up1 i (by omega)]
    by_cases c0 : i = 0
    · have hn2 := hn.filter (fun s => v.getD s.toNat 0 == path.2[i])
      have hn3 := hn2.1
      have hd : F1u (false, now) ((f, v), (path.2[i], ())) = some (false, now.filter fun s => v.getD s.toNat 0 == path.2[i]) := Q48 h f (path.2[i]) (false, now) (by simp only; omega) hn.2
      rw [gF (by omega), if_pos c0, hd, J0, Q5m _ (by simp only; omega), J0, gT (by simp; omega), J1, K1r, ih (i + 1) _ _ (by omega) (by simp; omega) hn2, if_neg (by omega)]
      simp
    · have hnx := hn.next h.ok
      have hn2 := hnx.filter (fun s => v.getD s.toNat 0 == path.2[i])
      have hn3 := hn2.1
      have hn4 := hnx.1
      obtain ⟨t, t1, t2, t3⟩ := Qd1 h.ok (f, v) (false, o) (path.2[i]) path (path.2.length : Int) (i : Int) (false, now) hn now.length 0 (List.replicate (Q0 p) false) (by simp) (by simp)
      have t3' : Fa8 p (f, v) (false, o) (false, Qy p) (path.2[i]) (false, List.replicate (Q0 p) false) path (path.2.length : Int) (i : Int) (false, now) (now.length : Int) 0 = _ := t3
      have hmk := Q7z h.ok now hn t t1 (fun j hj => by
        rw [t2 j hj, Kg]
        have e : (List.replicate (Q0 p) false).getD j false = false := by simp [K1, List.getElem?_replicate, hj]
        rw [e, Bool.false_or])
      rw [gT (by omega), if_neg c0, Q13 h.ok.sml, J0, gT (by omega), gT (by omega), gT (by omega), gT (by omega), K7]
      simp only [t3', J0, hmk]
      have hd : F1u (false, Qq (now.flatMap (Q9 p))) ((f, v), (path.2[i], ())) = some (false, (Qq (now.flatMap (Q9 p))).filter fun s => v.getD s.toNat 0 == path.2[i]) := Q48 h f (path.2[i]) (false, Qq (now.flatMap (Q9 p))) (by simp only; omega) hnx.2
      rw [hd, J0, Q5m _ (by simp only; omega), J0, gT (by simp; omega), J1, K1r, ih (i + 1) _ _ (by omega) (by simp; omega) hn2, if_neg (by omega)]
      simp
theorem Q37 {p : DProgram} {v : List Int} (h : Sees p v) (f : Bool) (path : Bool × List Int) (hp : path.2.length ≤ 1048576) : F8 p (f, v) path = some (false, (Qi p v (Q3 p p.2.2.1.2 0 (Q0 p)) path.2).map fun l => (false, l)) := by
  have hg := h.ok.good
  have hk : Q1 p.1 p.2.1 p.2.2.1.2 ≠ 0 := by
    simp only [Q4, K5, beq_iff_eq] at hg
    rw [hg.1]
    decide
  have e := Qd0 h f path hp path.2.length 0 [] _ (by omega) (by simp) (Q3b p.2.2.1.2)
  have e' : F4z p (f, v) (false, []) (false, Qy p) (false, Q3 p p.2.2.1.2 0 (Q0 p)) path (path.2.length : Int) 0 = _ := e
  rw [F8E, Qbo h.ok, J0, Qfi h.ok.sml p.2.2.1 h.ok.wf.1 hk, J0]
  show ((F4z p (f, v) (false, []) (false, Qy p) (false, Q3 p p.2.2.1.2 0 (Q0 p)) path (path.2.length : Int) 0).bind fun r2 => some (r2.1, r2.2)) = _
  rw [e', J0, if_pos rfl, Kv, Kg]
/-- the first place without states, -1 if there is none -/
def Q1e (A : List (List Int)) : Int := bif A.any (fun l => (l.length : Int) == 0) then (A.findIdx (fun l => (l.length : Int) == 0) : Int) else -1
theorem Q3z (A : List (List Int)) (g : List Int → Bool) (b : Bool) (hl : A.length ≤ 1048576) : F2z (b, A.map fun l => (g l, l)) = some (Q1e A) ∧ F2f (b, A.map fun l => (g l, l)) = some (Q1e A) := by
  have e1 : ((A.map fun l => (g l, l)).any fun x : Bool × List Int => (x.2.length : Int) == 0) = A.any fun l => (l.length : Int) == 0 := by rw [List.any_map]; rfl
  have e2 : ((A.map fun l => (g l, l)).findIdx fun x : Bool × List Int => (x.2.length : Int) == 0) = A.findIdx fun l => (l.length : Int) == 0 := by rw [List.findIdx_map]; rfl
  constructor
  · have h := Ja (A.map fun l => (g l, l)) (fun x => (x.2.length : Int) == 0) (fun i => F96 (b, A.map fun l => (g l, l)) () ((A.map fun l => (g l, l)).length : Int) i) (fun i hi => by
      have hi' : i < A.length := by simpa using hi
      rw [F96E, gT (by omega), gT (by omega), gT (by simp only; omega), J2 (A.map fun l => (g l, l)) _ i hi, F5qE, J0, up1 i (by omega), J1]) (by rw [F96E, gF (by omega)])
    rw [F2zE, F3rE]
    simp only [h, J0, e1, e2, Q1e]
    cases A.any fun l => (l.length : Int) == 0 <;> rfl
  · have h := Ja (A.map fun l => (g l, l)) (fun x => (x.2.length : Int) == 0) (fun i => F9y (b, A.map fun l => (g l, l)) ((A.map fun l => (g l, l)).length : Int) i) (fun i hi => by
      have hi' : i < A.length := by simpa using hi
      rw [F9yE, gT (by omega), gT (by omega), gT (by simp only; omega), J2 (A.map fun l => (g l, l)) _ i hi, up1 i (by omega), J1]) (by rw [F9yE, gF (by omega)])
    rw [F2fE]
    simp only [h, J0, e1, e2, Q1e]
    cases A.any fun l => (l.length : Int) == 0 <;> rfl
theorem Q9d (A : List (List Int)) : -1 ≤ Q1e A ∧ Q1e A < (A.length : Int) := by
  unfold Q1e
  cases h : A.any fun l => (l.length : Int) == 0 with
  | false => exact ⟨by simp, by simp; omega⟩
  | true =>
    have := List.findIdx_lt_length.2 (K11.1 h)
    rw [cond_true]
    exact ⟨by omega, by omega⟩
/-- the rows of states along a path, from the start on -/
noncomputable def Qr (p : DProgram) (v path : List Int) : List (List Int) := Qi p v (Q3 p p.2.2.1.2 0 (Q0 p)) path
theorem Q73 (A : List (List Int)) (g : List Int → Bool) (k : Nat) (hk : k < A.length) : (A.map fun l => (g l, l)).getD k (true, []) = (g A[k], A[k]) := by
  rw [K1, K1o, Kb hk]
  rfl
/-- the states ahead of the place where a path fails -/
noncomputable def Qbg (p : DProgram) (v path : List Int) : List Int := (Qr p v path).getD ((Q1e (Qr p v path)).toNat - 1) []
theorem Qd7 {p : DProgram} {v : List Int} (h : Sees p v) (f : Bool) (path : Bool × List Int) (hp : path.2.length ≤ 1048576) :
    F5m p (f, v) path = some (if Q1e (Qr p v path.2) < 1 then ((true, []), false) else ((false, Qbg p v path.2), true)) := by
  have e1 := Q37 h f path hp
  have hlen : (Qr p v path.2).length = path.2.length := Qf p v path.2 _
  have e2 := (Q3z (Qr p v path.2) (fun _ => false) false (by rw [hlen]; exact hp)).1
  have hf := Q9d (Qr p v path.2)
  rw [F5mE, e1, J0]
  show ((F2z (false, (Qr p v path.2).map fun l => (false, l))).bind fun r1 => _) = _
  rw [e2, J0, Qbg]
  generalize Q1e (Qr p v path.2) = k at hf
  by_cases c : k < 1
  · rw [gT c, if_pos c]
  · obtain ⟨n, rfl⟩ : ∃ n : Nat, k = ((n + 1 : Nat) : Int) := ⟨(k - 1).toNat, by omega⟩
    have hn : n < (Qr p v path.2).length := by omega
    have ew : IntKind.i64.wrap (((n + 1 : Nat) : Int) - 1) = (n : Int) := by rw [wr (by omega)]; omega
    rw [gF c, if_neg c]
    simp only [ew]
    rw [gT (show (0 : Int) ≤ (n : Int) by omega)]
    show (bif decide ((n : Int) < (((Qr p v path.2).map fun l => (false, l)).length : Int)) then some ((((Qr p v path.2).map fun l => (false, l)).getD (Int.toNat (n : Int)) (true, []) |>.1, ((Qr p v path.2).map fun l => (false, l)).getD (Int.toNat (n : Int)) (true, []) |>.2), true) else none) = _
    rw [gT (by simp; omega), K7, Q73 _ _ n hn, K7, Nat.add_sub_cancel]
    have e : (Qr p v path.2).getD n [] = (Qr p v path.2)[n] := by simp [K1, hn]
    rw [e]
theorem Qd8 {p : DProgram} {v : List Int} (h : Sees p v) (path : List Int) : InS p (Qbg p v path) := by
  unfold Qbg
  rw [K1]
  cases hh : (Qr p v path)[(Q1e (Qr p v path)).toNat - 1]? with
  | none => exact ⟨by simp, by simp⟩
  | some l => exact Q6t h.ok v path _ (Q3b p.2.2.1.2) l (List.mem_of_getElem? hh)
def negs (s : List Int) : Nat := s.countP fun x => decide (x < 0)
/-- an arrow from k to w is followed -/
def Qt (k : Nat) (st : List Int × List Int) (w : Int) : List Int × List Int := if st.1.getD w.toNat 0 < 0 then (st.1.set w.toNat (st.1.getD k 0 + 1), st.2 ++ [w]) else st
def bfsL (G : List (List Int)) : Nat → List Int → List Int → List Int
  | 0, s, _ => s
  | _ + 1, s, [] => s
  | n + 1, s, k :: q => bfsL G n ((G.getD k.toNat []).foldl (Qt k.toNat) (s, q)).1 ((G.getD k.toNat []).foldl (Qt k.toNat) (s, q)).2
structure BInv (m : Nat) (s q : List Int) : Prop where
  len : s.length = m
  low : ∀ e ∈ s, -1 ≤ e
  high : ∀ e ∈ s, e + (negs s : Int) ≤ m
  que : ∀ w ∈ q, (0 ≤ w ∧ w < (m : Int)) ∧ 0 ≤ s.getD w.toNat 0
theorem Qn (s : List Int) (i j : Nat) (a : Int) (hi : i < s.length) : (s.set i a).getD j 0 = if i = j then a else s.getD j 0 := by
  rw [K1, List.getElem?_set, K1]
  by_cases h : i = j
  · subst h; simp [hi]
  · simp [h]
theorem Q3j {s : List Int} {i : Nat} (h : i < s.length) : s.getD i 0 ∈ s := by
  have e : s.getD i 0 = s[i] := by simp [K1, h]
  rw [e]
  exact K4 h
theorem Q6o (s : List Int) : negs s ≤ s.length := List.countP_le_length
theorem Q3u {m k : Nat} {s q : List Int} (h : BInv m s q) (hk : k < m) (hk2 : 0 ≤ s.getD k 0) {w : Int} (hw : 0 ≤ w ∧ w < (m : Int)) :
    BInv m (Qt k (s, q) w).1 (Qt k (s, q) w).2 ∧ (Qt k (s, q) w).1.getD k 0 = s.getD k 0 ∧ 2 * negs (Qt k (s, q) w).1 + (Qt k (s, q) w).2.length ≤ 2 * negs s + q.length := by
  have hlen := h.len
  unfold Qt
  by_cases c : s.getD w.toNat 0 < 0
  · simp only [if_pos c]
    have hwl : w.toNat < s.length := by omega
    have hws : s[w.toNat] < 0 := by
      have e : s.getD w.toNat 0 = s[w.toNat] := by simp [K1, hwl]
      omega
    have hn : negs (s.set w.toNat (s.getD k 0 + 1)) + 1 = negs s := by
      unfold negs
      rw [List.countP_set hwl, if_pos (decide_eq_true hws), if_neg (by simp only [decide_eq_true_eq]; omega)]
      have : 0 < s.countP fun x => decide (x < 0) := List.countP_pos_iff.2 ⟨_, K4 hwl, decide_eq_true hws⟩
      omega
    have hkw : w.toNat ≠ k := by
      rintro rfl
      omega
    have hkm := Q3j (s := s) (i := k) (by omega)
    refine ⟨⟨by rw [Ku]; exact hlen, fun e he => ?_, fun e he => ?_, fun x hx => ?_⟩, ?_, ?_⟩
    · rcases List.mem_or_eq_of_mem_set he with he | rfl
      · exact h.low e he
      · omega
    · rcases List.mem_or_eq_of_mem_set he with he | rfl
      · have := h.high e he
        omega
      · have := h.high _ hkm
        omega
    · rw [Qn s _ _ _ hwl]
      rcases Kh.1 hx with hx | hx
      · obtain ⟨h1, h2⟩ := h.que x hx
        refine ⟨h1, ?_⟩
        split <;> omega
      · rw [K18] at hx
        subst hx
        exact ⟨hw, by rw [if_pos rfl]; omega⟩
    · rw [Qn s _ _ _ hwl, if_neg hkw]
    · rw [Kj, K1z]
      omega
  · simp only [if_neg c]
    exact ⟨h, trivial, K12 _⟩
theorem Q5y {m k : Nat} (hk : k < m) (ws : List Int) : ∀ {s q : List Int}, BInv m s q → 0 ≤ s.getD k 0 → (∀ w ∈ ws, 0 ≤ w ∧ w < (m : Int)) →
    BInv m (ws.foldl (Qt k) (s, q)).1 (ws.foldl (Qt k) (s, q)).2 ∧ 2 * negs (ws.foldl (Qt k) (s, q)).1 + (ws.foldl (Qt k) (s, q)).2.length ≤ 2 * negs s + q.length := by
  induction ws with
  | nil => intro s q h _ _; exact ⟨h, K12 _⟩
  | cons w ws ih =>
    intro s q h h2 hw
    obtain ⟨g1, g2, g3⟩ := Q3u h hk h2 (hw w Kp)
    rw [K1d]
    obtain ⟨i1, i2⟩ := ih (s := (Qt k (s, q) w).1) (q := (Qt k (s, q) w).2) g1 (by rw [g2]; exact h2) fun x hx => hw x (K8 _ hx)
    exact ⟨i1, Kx i2 g3⟩
/-- a graph's rows, whatever their marks of nil -/
structure Gr (m : Nat) (G : List (List Int)) : Prop where
  len : G.length = m
  inn : ∀ l ∈ G, ∀ w ∈ l, 0 ≤ w ∧ w < (m : Int)
  short : ∀ l ∈ G, l.length ≤ 20000000
  small : m ≤ 10000
theorem Q50 {G : List (List Int)} {R : List (Bool × List Int)} (h : R.map Prod.snd = G) {k : Nat} (hk : k < G.length) : k < R.length ∧ (R.getD k (true, [])).2 = G.getD k [] ∧ G.getD k [] ∈ G := by
  subst h
  have hk' : k < R.length := by simpa using hk
  refine ⟨hk', ?_, ?_⟩
  · simp [K1, hk']
  · have e : (R.map Prod.snd).getD k [] = (R.map Prod.snd)[k] := by simp [K1, hk']
    rw [e]
    exact K4 _
theorem Q7u {m : Nat} (g : Bool × List (Bool × List Int)) (b ob : Bool) (hd : Int) (hhd : 0 ≤ hd ∧ hd < (m : Int)) (r : Bool × List Int) (hr : r.2.length ≤ 20000000) (hw : ∀ w ∈ r.2, 0 ≤ w ∧ w < (m : Int)) (hm : m ≤ 10000) (d : Nat) : ∀ (i : Nat) (s q : List Int), i + d = r.2.length → BInv m s q → 0 ≤ s.getD hd.toNat 0 → q.length + d ≤ 200000000 → ∀ ob, ∃ ob',
    F6u g (b, s) (ob, hd :: q) r (r.2.length : Int) (i : Int) = some ((b, ((r.2.drop i).foldl (Qt hd.toNat) (s, q)).1), (ob', hd :: ((r.2.drop i).foldl (Qt hd.toNat) (s, q)).2)) := by
  have hlim := J7
  induction d with
  | zero =>
    intro i s q hi hI hk hq ob
    rw [F6uE, gF (by omega), Ka (by omega)]
    exact ⟨ob, rfl⟩
  | succ d ih =>
    intro i s q hi hI hk hq ob
    have hlt : i < r.2.length := by omega
    have hx := hw _ (K4 hlt)
    obtain ⟨g1, g2, g3⟩ := Q3u hI (show hd.toNat < m by omega) hk hx
    have hlen := hI.len
    have hh := hI.high _ (Q3j (s := s) (i := hd.toNat) (by omega))
    rw [F6uE, gT (by omega), gT (by omega), gT (by omega), J2 r.2 _ i hlt, gT hx.1, gT (by simp only; omega), up1 i (by omega), K3 hlt, K1d]
    simp only [List.getD_cons_zero]
    by_cases c : s.getD (Int.toNat r.2[i]) 0 < 0
    · have e : Qt hd.toNat (s, q) r.2[i] = (s.set (Int.toNat r.2[i]) (s.getD hd.toNat 0 + 1), q ++ [r.2[i]]) := by unfold Qt; exact if_pos c
      rw [e] at g1 g2 g3
      obtain ⟨ob', g⟩ := ih (i + 1) _ _ (by omega) g1 (by rw [g2]; exact hk) (by simp; omega) (ob && false)
      rw [gT c, gT (by simp), gT hhd.1, gT (by omega), gT hx.1, gT (by omega), gT (by simp; omega), wr (by omega), J1, e]
      exact ⟨ob', g⟩
    · have e : Qt hd.toNat (s, q) r.2[i] = (s, q) := by unfold Qt; exact if_neg c
      obtain ⟨ob', g⟩ := ih (i + 1) s q (by omega) hI hk (by omega) ob
      rw [gF c, J1, e]
      exact ⟨ob', g⟩
theorem Qfq {m : Nat} (g : Bool × List (Bool × List Int)) (b : Bool) (hd : Int) (hhd : 0 ≤ hd ∧ hd < (m : Int)) (r : Bool × List Int) (hr : r.2.length ≤ 20000000) (hw : ∀ w ∈ r.2, 0 ≤ w ∧ w < (m : Int)) (hm : m ≤ 10000) (d : Nat) : ∀ (i : Nat) (s q : List Int), i + d = r.2.length → BInv m s q → 0 ≤ s.getD hd.toNat 0 → q.length + d ≤ 200000000 → ∀ ob, ∃ ob',
    F50 g (b, s) (ob, q) hd r (r.2.length : Int) (i : Int) = some ((b, ((r.2.drop i).foldl (Qt hd.toNat) (s, q)).1), (ob', ((r.2.drop i).foldl (Qt hd.toNat) (s, q)).2)) := by
  have hlim := J7
  induction d with
  | zero =>
    intro i s q hi hI hk hq ob
    rw [F50E, gF (by omega), Ka (by omega)]
    exact ⟨ob, rfl⟩
  | succ d ih =>
    intro i s q hi hI hk hq ob
    have hlt : i < r.2.length := by omega
    have hx := hw _ (K4 hlt)
    obtain ⟨g1, g2, g3⟩ := Q3u hI (show hd.toNat < m by omega) hk hx
    have hlen := hI.len
    have hh := hI.high _ (Q3j (s := s) (i := hd.toNat) (by omega))
    rw [F50E, gT (by omega), gT (by omega), gT (by omega), J2 r.2 _ i hlt, gT hx.1, gT (by simp only; omega), up1 i (by omega), K3 hlt, K1d]
    simp only
    by_cases c : s.getD (Int.toNat r.2[i]) 0 < 0
    · have e : Qt hd.toNat (s, q) r.2[i] = (s.set (Int.toNat r.2[i]) (s.getD hd.toNat 0 + 1), q ++ [r.2[i]]) := by unfold Qt; exact if_pos c
      rw [e] at g1 g2 g3
      obtain ⟨ob', g⟩ := ih (i + 1) _ _ (by omega) g1 (by rw [g2]; exact hk) (by simp; omega) (ob && false)
      rw [gT c, gT hhd.1, gT (by omega), gT hx.1, gT (by omega), gT (by simp; omega), wr (by omega), J1, e]
      exact ⟨ob', g⟩
    · have e : Qt hd.toNat (s, q) r.2[i] = (s, q) := by unfold Qt; exact if_neg c
      obtain ⟨ob', g⟩ := ih (i + 1) s q (by omega) hI hk (by omega) ob
      rw [gF c, J1, e]
      exact ⟨ob', g⟩
theorem Q63 {m : Nat} {G : List (List Int)} (hG : Gr m G) (gb gb2 : Bool) {R R2 : List (Bool × List Int)} (hR : R.map Prod.snd = G) (hR2 : R2.map Prod.snd = G) (n : Nat) : ∀ (s q : List Int) (b b2 ob ob2 : Bool), BInv m s q → 2 * negs s + q.length ≤ n → n ≤ 20000000 →
    F8e (gb, R) (b, s) (ob, q) = some (b, bfsL G n s q) ∧ F9r (gb2, R2) (b2, s) (ob2, q) = some (b2, bfsL G n s q) ∧ BInv m (bfsL G n s q) [] := by
  induction n with
  | zero =>
    intro s q b b2 ob ob2 hI hn _
    have : q = [] := List.length_eq_zero_iff.1 (by omega)
    subst this
    exact ⟨by rw [F8eE, gF (by simp)]; rfl, by rw [F9rE, gF (by simp)]; rfl, hI⟩
  | succ n ih =>
    intro s q b b2 ob ob2 hI hn hn2
    cases q with
    | nil => exact ⟨by rw [F8eE, gF (by simp)]; rfl, by rw [F9rE, gF (by simp)]; rfl, hI⟩
    | cons k q =>
      obtain ⟨hk1, hk2⟩ := hI.que k Kp
      have hI' : BInv m s q := ⟨hI.len, hI.low, hI.high, fun w hw => hI.que w (K8 _ hw)⟩
      have hkG : k.toNat < G.length := by rw [hG.len]; omega
      obtain ⟨r1, r2, r3⟩ := Q50 hR hkG
      obtain ⟨r4, r5, _⟩ := Q50 hR2 hkG
      have hin := hG.inn _ r3
      have hsh := hG.short _ r3
      have hsm := hG.small
      obtain ⟨v1, v2⟩ := Q5y (show k.toNat < m by omega) (G.getD k.toNat []) hI' hk2 hin
      obtain ⟨i1, i2, i3⟩ := ih ((G.getD k.toNat []).foldl (Qt k.toNat) (s, q)).1 ((G.getD k.toNat []).foldl (Qt k.toNat) (s, q)).2 b b2 ob ob2 v1 (by simp only [Ks] at hn; omega) (by omega)
      simp only [Ks] at hn
      refine ⟨?_, ?_, i3⟩
      · obtain ⟨ob', e⟩ := Q7u (m := m) (gb, R) b ob k hk1 (R.getD k.toNat (true, [])) (by rw [r2]; exact hsh) (by rw [r2]; exact hin) hsm (R.getD k.toNat (true, [])).2.length 0 s q (by omega) hI' hk2 (by rw [r2]; omega) ob
        rw [r2, Kg] at e
        have e' : F6u (gb, R) (b, s) (ob, k :: q) (R.getD k.toNat (true, [])) ((G.getD k.toNat []).length : Int) 0 = _ := e
        rw [F8eE, gT (by simp), gT (by simp)]
        simp only [List.getD_cons_zero]
        rw [gT hk1.1, gT (by omega), r2, e', J0, gT (by simp; omega), J1]
        have et : ∀ (l : List Int), ((k :: l).take (k :: l).length).drop 1 = l := fun l => by simp
        simp only [et]
        obtain ⟨j1, _, _⟩ := ih ((G.getD k.toNat []).foldl (Qt k.toNat) (s, q)).1 ((G.getD k.toNat []).foldl (Qt k.toNat) (s, q)).2 b b2 ob' ob2 v1 (by omega) (by omega)
        exact j1
      · obtain ⟨ob', e⟩ := Qfq (m := m) (gb2, R2) b2 k hk1 (R2.getD k.toNat (true, [])) (by rw [r5]; exact hsh) (by rw [r5]; exact hin) hsm (R2.getD k.toNat (true, [])).2.length 0 s q (by omega) hI' hk2 (by rw [r5]; omega) ob2
        rw [r5, Kg] at e
        have e' : F50 (gb2, R2) (b2, s) (ob2, q) k (R2.getD k.toNat (true, [])) ((G.getD k.toNat []).length : Int) 0 = _ := e
        have et : ((k :: q).take (k :: q).length).drop 1 = q := by simp
        rw [F9rE, gT (by simp), gT (by simp), gT (by simp; omega)]
        simp only [List.getD_cons_zero, et]
        rw [gT hk1.1, gT (by omega), r5, e', J0, J1]
        obtain ⟨_, j2, _⟩ := ih ((G.getD k.toNat []).foldl (Qt k.toNat) (s, q)).1 ((G.getD k.toNat []).foldl (Qt k.toNat) (s, q)).2 b b2 ob ob' v1 (by omega) (by omega)
        exact j2
/-- the marks with which the search begins -/
def far0 (m : Nat) (l : List Int) : List Int := l.foldl (fun s w => s.set w.toNat 0) (List.replicate m (-1))
def farL (G : List (List Int)) (l : List Int) : List Int := bfsL G (2 * G.length + l.length) (far0 G.length l) l
theorem Q4i (m : Nat) (l : List Int) (hl : ∀ w ∈ l, 0 ≤ w ∧ w < (m : Int)) : BInv m (far0 m l) l := by
  have key : ∀ (l : List Int) (s : List Int) (done : List Int), (∀ w ∈ l, 0 ≤ w ∧ w < (m : Int)) → s.length = m → (∀ e ∈ s, e = -1 ∨ e = 0) → (∀ w ∈ done, (0 ≤ w ∧ w < (m : Int)) ∧ 0 ≤ s.getD w.toNat 0) → (l.foldl (fun s w => s.set w.toNat 0) s).length = m ∧ (∀ e ∈ l.foldl (fun s w => s.set w.toNat 0) s, e = -1 ∨ e = 0) ∧ ∀ w, w ∈ done ∨ w ∈ l → (0 ≤ w ∧ w < (m : Int)) ∧ 0 ≤ (l.foldl (fun s w => s.set w.toNat 0) s).getD w.toNat 0 := by
    intro l
    induction l with
    | nil => intro s done _ h1 h2 h3; exact ⟨h1, h2, fun w hw => h3 w (hw.resolve_right (by simp))⟩
    | cons a l ih =>
      intro s done hw h1 h2 h3
      have ha := hw a Kp
      rw [K1d]
      obtain ⟨g1, g2, g3⟩ := ih (s.set a.toNat 0) (a :: done) (fun w h => hw w (K8 _ h)) (by rw [Ku]; exact h1) (fun e he => by
        rcases List.mem_or_eq_of_mem_set he with he | rfl
        · exact h2 e he
        · exact .inr rfl) (fun w hwd => by
        rw [Qn s _ _ _ (by omega)]
        rcases Kd.1 hwd with rfl | hwd
        · exact ⟨ha, by rw [if_pos rfl]; omega⟩
        · obtain ⟨q1, q2⟩ := h3 w hwd
          exact ⟨q1, by split <;> omega⟩)
      refine ⟨g1, g2, fun w hw2 => g3 w ?_⟩
      rcases hw2 with h | h
      · exact .inl (K8 _ h)
      · rcases Kd.1 h with rfl | h
        · exact .inl Kp
        · exact .inr h
  obtain ⟨g1, g2, g3⟩ := key l (List.replicate m (-1)) [] hl (by simp) (fun e he => .inl (List.eq_of_mem_replicate he)) (by simp)
  have hn := Q6o (far0 m l)
  refine ⟨g1, fun e he => by rcases g2 e he with h | h <;> omega, fun e he => ?_, fun w hw => g3 w (.inr hw)⟩
  have e1 : (far0 m l).length = m := g1
  rcases g2 e he with h | h <;> omega
theorem Q7t (g : Bool × List (Bool × List Int)) (b : Bool) (op : Bool × List Int) (m : Nat) (l : Bool × List Int) (hl : l.2.length ≤ 1048576) (hw : ∀ w ∈ l.2, 0 ≤ w ∧ w < (m : Int)) (s : List Int) (hs : s.length = m) : F93 g (b, s) op l (l.2.length : Int) 0 = some (b, l.2.foldl (fun s w => s.set w.toNat 0) s) :=
  Jx l.2 (fun (s : List Int) w => s.set w.toNat 0) (fun s => (b, s)) (fun s i => F93 g (b, s) op l (l.2.length : Int) i) (fun _ s => s.length = m) (fun i h s hs => by
    have hx := hw _ (K4 h)
    refine ⟨?_, by rw [Ku]; exact hs⟩
    rw [F93E, gT (by omega), gT (by omega), gT (by omega), J2 l.2 _ i h, gT hx.1, gT (by simp only; omega), up1 i (by omega), J1]) (fun s _ => by rw [F93E, gF (by omega)]) s hs
theorem Qfp (g : Bool × List (Bool × List Int)) (fr : Bool × List Int) (b : Bool) (m : Nat) (l : Bool × List Int) (hl : l.2.length ≤ 1048576) (hw : ∀ w ∈ l.2, 0 ≤ w ∧ w < (m : Int)) (s : List Int) (hs : s.length = m) : Fa0 g fr (b, s) l (l.2.length : Int) 0 = some (b, l.2.foldl (fun s w => s.set w.toNat 0) s) :=
  Jx l.2 (fun (s : List Int) w => s.set w.toNat 0) (fun s => (b, s)) (fun s i => Fa0 g fr (b, s) l (l.2.length : Int) i) (fun _ s => s.length = m) (fun i h s hs => by
    have hx := hw _ (K4 h)
    refine ⟨?_, by rw [Ku]; exact hs⟩
    rw [Fa0E, gT (by omega), gT (by omega), gT (by omega), J2 l.2 _ i h, gT hx.1, gT (by simp only; omega), up1 i (by omega), J1]) (fun s _ => by rw [Fa0E, gF (by omega)]) s hs
theorem Qfo (g : Bool × List (Bool × List Int)) (fr : Bool × List Int) (b : Bool) (m : Nat) (hm : m ≤ 10000) (d : Nat) : ∀ (i : Nat) (s : List Int), i + d = m → s.length = m → F80 g fr (b, s) (m : Int) (i : Int) = some (b, s.take i ++ List.replicate d (-1)) := by
  induction d with
  | zero =>
    intro i s hi hs
    rw [F80E, gF (by omega), K1i (by omega)]
    simp
  | succ d ih =>
    intro i s hi hs
    rw [F80E, gT (by omega), gT (by omega), gT (by simp only; omega), K7, up1 i (by omega), J1, ih (i + 1) (s.set i (-1)) (by omega) (by rw [Ku]; exact hs)]
    have e : (s.set i (-1)).take (i + 1) = s.take i ++ [-1] := by
      rw [K1c (by rw [Ku]; omega), List.getElem_set_self, List.take_set_of_le (K12 _)]
    rw [e, Kk, List.replicate_succ]
    rfl
theorem Q7s {m : Nat} {G : List (List Int)} (hG : Gr m G) (hm : 1 ≤ m) (gb : Bool) {R : List (Bool × List Int)} (hR : R.map Prod.snd = G) (l : List Int) (hl : l.length ≤ 10000) (hw : ∀ w ∈ l, 0 ≤ w ∧ w < (m : Int)) : Fj (gb, R) (false, l) = some (false, farL G l) := by
  have hlim := J7
  have hRl : R.length = m := by rw [← hG.len, ← hR, Ky]
  have hsm := hG.small
  have e1 := Qas (false, [-1]) m (by simp) (by simp) hm hsm
  have e1' : F3n (false, [-1]) (m : Int) = some (false, List.replicate m (-1)) := by
    rw [e1]
    congr 2
    clear e1 hR hRl hG hw hm hsm
    induction m with
    | zero => rfl
    | succ n ih => rw [List.replicate_succ, List.flatten_cons, ih]; rfl
  have e2 : F4k (false, l) = some (false, l) := by rw [F4kE, cond_false, gT (by simp; omega), Kv]
  have e3 := Q7t (gb, R) false (false, l) m (false, l) (by simp only; omega) hw (List.replicate m (-1)) (by simp)
  have e3' : F93 (gb, R) (false, List.replicate m (-1)) (false, l) (false, l) (l.length : Int) 0 = some (false, far0 m l) := e3
  have hI := Q4i m l hw
  have hn := Q6o (far0 m l)
  obtain ⟨e4, _, _⟩ := Q63 hG gb gb hR hR (2 * m + l.length) (far0 m l) l false false false false hI (by rw [hI.len] at hn; omega) (by omega)
  rw [FjE]
  simp only [hRl, e1', J0, e2, e3', e4]
  rw [farL, hG.len]
theorem Qeg {m : Nat} {G : List (List Int)} (hG : Gr m G) (gb fb : Bool) {R : List (Bool × List Int)} (hR : R.map Prod.snd = G) (l : List Int) (hl : l.length ≤ 10000) (hw : ∀ w ∈ l, 0 ≤ w ∧ w < (m : Int)) : F9 (gb, R) (fb, l) = some (false, farL G l) := by
  have hlim := J7
  have hRl : R.length = m := by rw [← hG.len, ← hR, Ky]
  have hsm := hG.small
  have e1 := Qfo (gb, R) (fb, l) false m hsm m 0 (List.replicate m 0) (by omega) (by simp)
  have e1' : F80 (gb, R) (fb, l) (false, List.replicate m 0) (m : Int) 0 = some (false, List.replicate m (-1)) := by simpa using e1
  have e3 := Qfp (gb, R) (fb, l) false m (fb, l) (by simp only; omega) hw (List.replicate m (-1)) (by simp)
  have e3' : Fa0 (gb, R) (fb, l) (false, List.replicate m (-1)) (fb, l) (l.length : Int) 0 = some (false, far0 m l) := e3
  have hI := Q4i m l hw
  have hn := Q6o (far0 m l)
  have eo : ∃ ob, F61 (fb, l) = some (ob, l) := ⟨false, by rw [F61E, gT (by simp; omega), Kv]⟩
  obtain ⟨ob, eo⟩ := eo
  obtain ⟨_, e4, _⟩ := Q63 hG gb gb hR hR (2 * m + l.length) (far0 m l) l false false false ob hI (by rw [hI.len] at hn; omega) (by omega)
  rw [F9E]
  simp only [hRl, List.length_replicate, K7]
  rw [gT (by omega), gT (by omega), gT (by omega), gT (by omega), e1', J0, e3', J0, eo, J0, e4, J0, farL, hG.len]
theorem Q4j {m : Nat} {G : List (List Int)} (hG : Gr m G) (l : List Int) (hl : l.length ≤ 10000) (hw : ∀ w ∈ l, 0 ≤ w ∧ w < (m : Int)) : BInv m (farL G l) [] := by
  have hI := Q4i m l hw
  have hn := Q6o (far0 m l)
  have hsm := hG.small
  have hRl : (G.map fun l => (false, l)).map Prod.snd = G := by rw [List.map_map]; exact List.map_id'' (fun _ => rfl) G
  rw [farL, hG.len]
  exact (Q63 hG false false hRl hRl (2 * m + l.length) (far0 m l) l false false false false hI (by rw [hI.len] at hn; omega) (by omega)).2.2
/-- the points that are reached -/
def Q4a (G : List (List Int)) (l : List Int) : List Int := ((List.range (farL G l).length).filter fun i => decide ((farL G l).getD i 0 ≥ 0)).map Int.ofNat
theorem Q9t (t : Bool × List Int) (hl : t.2.length ≤ 200000000) (d : Nat) : ∀ (i : Nat) (o : List Int), i + d = t.2.length → o.length ≤ i →
    (F5w (false, o) t (t.2.length : Int) (i : Int) = some (false, o ++ ((List.range' i d).filter fun j => decide (t.2.getD j 0 ≥ 0)).map Int.ofNat)) ∧ ∀ b, ∃ b', F65 (b, o) t (t.2.length : Int) (i : Int) = some (b', o ++ ((List.range' i d).filter fun j => decide (t.2.getD j 0 ≥ 0)).map Int.ofNat) := by
  have hlim := J7
  induction d with
  | zero =>
    intro i o hi ho
    exact ⟨by rw [F5wE, gF (by omega)]; simp, fun b => ⟨b, by rw [F65E, gF (by omega)]; simp⟩⟩
  | succ d ih =>
    intro i o hi ho
    have hlt : i < t.2.length := by omega
    by_cases c : t.2.getD i 0 ≥ 0
    · obtain ⟨g1, g2⟩ := ih (i + 1) (o ++ [(i : Int)]) (by omega) (by simp; omega)
      constructor
      · rw [F5wE, gT (by omega), gT (by omega), gT (by omega), Qk, up1 i (by omega), gT c, gT (by simp; omega), J1, K1r, g1, K1a, K1l, if_pos (decide_eq_true c)]
        simp
      · intro b
        obtain ⟨b', g3⟩ := g2 (b && false)
        refine ⟨b', ?_⟩
        rw [F65E, gT (by omega), gT (by omega), gT (by omega), Qk, up1 i (by omega), gT c, gT (by simp; omega), J1, g3, K1a, K1l, if_pos (decide_eq_true c)]
        simp
    · obtain ⟨g1, g2⟩ := ih (i + 1) o (by omega) (by omega)
      constructor
      · rw [F5wE, gT (by omega), gT (by omega), gT (by omega), Qk, up1 i (by omega), gF c, J1, g1, K1a, K1l, if_neg (by simpa using c)]
      · intro b
        obtain ⟨b', g3⟩ := g2 b
        refine ⟨b', ?_⟩
        rw [F65E, gT (by omega), gT (by omega), gT (by omega), Qk, up1 i (by omega), gF c, J1, g3, K1a, K1l, if_neg (by simpa using c)]
theorem Q8t {m : Nat} {G : List (List Int)} (hG : Gr m G) (hm : 1 ≤ m) (gb : Bool) {R : List (Bool × List Int)} (hR : R.map Prod.snd = G) (l : List Int) (hl : l.length ≤ 10000) (hw : ∀ w ∈ l, 0 ≤ w ∧ w < (m : Int)) : F2g (gb, R) (false, l) = some (false, Q4a G l) := by
  have hI := Q4j hG l hl hw
  have hsm := hG.small
  have hlen := hI.len
  have e := (Q9t (false, farL G l) (by simp only; omega) (farL G l).length 0 [] (by simp) (by simp)).1
  have e' : F5w (false, []) (false, farL G l) ((farL G l).length : Int) 0 = _ := e
  rw [F2gE, Q7s hG hm gb hR l hl hw, J0]
  simp only [e', J0, Kv]
  rw [Q4a, K1e]
theorem Qdg {m : Nat} {G : List (List Int)} (hG : Gr m G) (gb fb : Bool) {R : List (Bool × List Int)} (hR : R.map Prod.snd = G) (l : List Int) (hl : l.length ≤ 10000) (hw : ∀ w ∈ l, 0 ≤ w ∧ w < (m : Int)) : ∃ b, F24 (gb, R) (fb, l) = some (b, Q4a G l) := by
  have hI := Q4j hG l hl hw
  have hsm := hG.small
  have hlen := hI.len
  obtain ⟨b, e⟩ := (Q9t (false, farL G l) (by simp only; omega) (farL G l).length 0 [] (by simp) (by simp)).2 true
  have e' : F65 (true, []) (false, farL G l) ((farL G l).length : Int) 0 = _ := e
  rw [F24E, Qeg hG gb fb hR l hl hw, J0]
  simp only [e', J0, Kv]
  rw [Q4a, K1e]
  exact ⟨b, rfl⟩
theorem Qcj {m : Nat} {G : List (List Int)} (hG : Gr m G) (l : List Int) (hl : l.length ≤ 10000) (hw : ∀ w ∈ l, 0 ≤ w ∧ w < (m : Int)) : (Q4a G l).length ≤ m ∧ ∀ x ∈ Q4a G l, 0 ≤ x ∧ x < (m : Int) := by
  have hlen := (Q4j hG l hl hw).len
  constructor
  · rw [Q4a, Ky]
    refine Kx (K1q _ _) ?_
    rw [List.length_range, hlen]
    exact K12 _
  · intro x hx
    obtain ⟨i, hi, rfl⟩ := Kt.1 hx
    have := K21.1 (K1m.1 hi).1
    exact ⟨Int.natCast_nonneg _, by simp; omega⟩
/-- the classes of the states in which a condition holds -/
noncomputable def Qu (p : DProgram) (v : List Int) (t : List DNode) : List Int := Qq (clsL v (Q3 p t 0 (Q0 p)))
noncomputable def Q2r (p : DProgram) (v : List Int) : List Int := Q4a (Q1n p v) (Qu p v p.2.2.1.2)
theorem Sees.start {p : DProgram} {v : List Int} (h : Sees p v) : Q1 p.1 p.2.1 p.2.2.1.2 ≠ 0 := by
  have hg := h.ok.good
  simp only [Q4, K5, beq_iff_eq] at hg
  rw [hg.1]
  decide
theorem Qba {p : DProgram} {v : List Int} (h : Sees p v) (l : List Int) (hl : ∀ x ∈ l, 0 ≤ x ∧ x < (Q0 p : Int)) : ∀ x ∈ Qq (clsL v l), 0 ≤ x ∧ x < Q1s v := fun x hx =>
  Q82 v (fun x hx => (h.inn x hx).1) l (fun x hx => by rw [h.len]; exact hl x hx) x ((Qh _ x).1 hx)
theorem Q3v {p : DProgram} {v : List Int} (h : Sees p v) (t : List DNode) : (∀ x ∈ Qu p v t, 0 ≤ x ∧ x < Q1s v) ∧ (Qu p v t).length ≤ 32 := by
  have hm := h.manyV
  have hlen := h.len
  have h1 := Qg p t 0 (Q0 p)
  have h2 := Q2s (clsL v (Q3 p t 0 (Q0 p)))
  have h3 : (clsL v (Q3 p t 0 (Q0 p))).length = (Q3 p t 0 (Q0 p)).length := by simp [clsL]
  refine ⟨Qba h _ fun x hx => (Ql.1 hx).1, ?_⟩
  show (Qq (clsL v (Q3 p t 0 (Q0 p)))).length ≤ 32
  omega
theorem Q1j {p : DProgram} {v : List Int} (h : Sees p v) : 1 ≤ (Q1s v).toNat ∧ ((Q1s v).toNat : Int) = Q1s v ∧ (Q1s v).toNat ≤ 33 := by
  have hc := Q4l v h.inn
  have hm := h.manyV
  have h0 := Q9o v _ (K4 (l := v) (n := 0) (by omega))
  have h1 := (h.inn _ (K4 (l := v) (n := 0) (by omega))).1
  omega
theorem Q1w {p : DProgram} {v : List Int} (h : Sees p v) : Gr (Q1s v).toNat (Q1n p v) := by
  obtain ⟨c1, c2, c3⟩ := Q1j h
  refine ⟨Q6e p v, fun l hl w hw => ?_, fun l hl => Kx (Q27 h l hl) (by omega), by omega⟩
  obtain ⟨c, _, rfl⟩ := Kt.1 hl
  rw [c2]
  exact Qba h _ (Q1y h.ok _ (h.inClass _)) w hw
theorem Qa2 {p : DProgram} {v : List Int} (h : Sees p v) (f : Bool) : F6c p (f, v) = some (false, Q2r p v) := by
  obtain ⟨c1, c2, c3⟩ := Q1j h
  obtain ⟨w1, w2⟩ := Q3v h p.2.2.1.2
  have hm := h.manyV
  have hlen := h.len
  have hl := Qg p p.2.2.1.2 0 (Q0 p)
  obtain ⟨b, e2⟩ := Q91 h.ok.sml p.2.2.1 h.ok.wf.1 h.start
  have e3 := h.clsP (b, Q3 p p.2.2.1.2 0 (Q0 p)) (by simp only; omega) (fun x hx => (Ql.1 hx).1) f
  have e4 := Q8t (Q1w h) c1 false (Q1q (Q1n p v) (fun _ => false)) (Qu p v p.2.2.1.2) (by omega) (by rw [c2]; exact w1)
  have e3' : F1m (f, v) (b, Q3 p p.2.2.1.2 0 (Q0 p)) = some (false, Qu p v p.2.2.1.2) := e3
  rw [F6cE, Q5l h f, J0, e2, J0]
  simp only [e3', J0, e4]
  rfl
theorem Qdm {p : DProgram} {v : List Int} (h : Sees p v) (f : Bool) : ∃ b, F58 p (f, v) = some (b, Q2r p v) := by
  obtain ⟨c1, c2, c3⟩ := Q1j h
  obtain ⟨w1, w2⟩ := Q3v h p.2.2.1.2
  have hm := h.manyV
  have hlen := h.len
  have hl := Qg p p.2.2.1.2 0 (Q0 p)
  obtain ⟨b1, R, e1, hR⟩ := Q9i h f
  obtain ⟨b, e2⟩ := Q42 h.ok.sml p.2.2.1 h.ok.wf.1 h.start
  obtain ⟨b3, e3⟩ := h.clsS (b, Q3 p p.2.2.1.2 0 (Q0 p)) (by simp only; omega) (fun x hx => (Ql.1 hx).1) f
  have e3' : F1h (f, v) (b, Q3 p p.2.2.1.2 0 (Q0 p)) = some (b3, Qu p v p.2.2.1.2) := e3
  obtain ⟨b4, e4⟩ := Qdg (Q1w h) b1 b3 hR (Qu p v p.2.2.1.2) (by omega) (by rw [c2]; exact w1)
  rw [F58E, e1, J0, e2, J0]
  simp only [e3', J0, e4]
  exact ⟨b4, rfl⟩
theorem Qci {p : DProgram} {v : List Int} (h : Sees p v) : (Q2r p v).length ≤ 33 ∧ ∀ x ∈ Q2r p v, 0 ≤ x ∧ x < Q1s v := by
  obtain ⟨c1, c2, c3⟩ := Q1j h
  obtain ⟨w1, w2⟩ := Q3v h p.2.2.1.2
  obtain ⟨r1, r2⟩ := Qcj (Q1w h) (Qu p v p.2.2.1.2) (by omega) (by rw [c2]; exact w1)
  rw [c2] at r2
  exact ⟨Kx r1 c3, r2⟩
/-- each point at some steps has a point ahead of it -/
def Pred (G : List (List Int)) (s : List Int) : Prop := ∀ v : Nat, v < s.length → 0 < s.getD v 0 → ∃ u : Nat, u < s.length ∧ (v : Int) ∈ G.getD u [] ∧ s.getD u 0 = s.getD v 0 - 1
theorem Qb2 {G : List (List Int)} {m k : Nat} {s q : List Int} (h : BInv m s q) (hk : k < m) (hk2 : 0 ≤ s.getD k 0) {w : Int} (hw : 0 ≤ w ∧ w < (m : Int)) (hwG : w ∈ G.getD k []) (hP : Pred G s) : Pred G (Qt k (s, q) w).1 := by
  have hlen := h.len
  unfold Qt
  by_cases c : s.getD w.toNat 0 < 0
  · simp only [if_pos c]
    have hwl : w.toNat < s.length := by omega
    have hkw : w.toNat ≠ k := by
      rintro rfl
      omega
    intro v hv h0
    rw [Ku] at hv ⊢
    rw [Qn s _ _ _ hwl] at h0
    by_cases e : w.toNat = v
    · refine ⟨k, by omega, ?_, ?_⟩
      · rw [← e, Int.toNat_of_nonneg hw.1]; exact hwG
      · rw [Qn s _ _ _ hwl, Qn s _ _ _ hwl, if_neg hkw, if_pos e]
        omega
    · rw [if_neg e] at h0
      obtain ⟨u, u1, u2, u3⟩ := hP v hv h0
      refine ⟨u, u1, u2, ?_⟩
      have hne : w.toNat ≠ u := by
        rintro rfl
        omega
      rw [Qn s _ _ _ hwl, Qn s _ _ _ hwl, if_neg hne, if_neg e]
      exact u3
  · simp only [if_neg c]
    exact hP
theorem Q90 {G : List (List Int)} {m k : Nat} (hk : k < m) (ws : List Int) (hwG : ∀ w ∈ ws, w ∈ G.getD k []) : ∀ {s q : List Int}, BInv m s q → 0 ≤ s.getD k 0 → (∀ w ∈ ws, 0 ≤ w ∧ w < (m : Int)) → Pred G s → Pred G (ws.foldl (Qt k) (s, q)).1 := by
  induction ws with
  | nil => intro s q _ _ _ h; exact h
  | cons w ws ih =>
    intro s q h h2 hw hP
    obtain ⟨g1, g2, _⟩ := Q3u h hk h2 (hw w Kp)
    rw [K1d]
    exact ih (fun x hx => hwG x (K8 _ hx)) (s := (Qt k (s, q) w).1) (q := (Qt k (s, q) w).2) g1 (by rw [g2]; exact h2) (fun x hx => hw x (K8 _ hx)) (Qb2 h hk h2 (hw w Kp) (hwG w Kp) hP)
theorem Qd3 {m : Nat} {G : List (List Int)} (hG : Gr m G) (n : Nat) : ∀ (s q : List Int), BInv m s q → Pred G s → Pred G (bfsL G n s q) := by
  induction n with
  | zero => intro s q _ h; exact h
  | succ n ih =>
    intro s q hI hP
    cases q with
    | nil => exact hP
    | cons k q =>
      obtain ⟨hk1, hk2⟩ := hI.que k Kp
      have hI' : BInv m s q := ⟨hI.len, hI.low, hI.high, fun w hw => hI.que w (K8 _ hw)⟩
      have hkG : k.toNat < G.length := by rw [hG.len]; omega
      have e : G.getD k.toNat [] ∈ G := by
        have e : G.getD k.toNat [] = G[k.toNat] := by simp [K1, hkG]
        rw [e]
        exact K4 _
      have hin := hG.inn _ e
      obtain ⟨v1, _⟩ := Q5y (show k.toNat < m by omega) (G.getD k.toNat []) hI' hk2 hin
      exact ih _ _ v1 (Q90 (show k.toNat < m by omega) _ (fun _ h => h) hI' hk2 hin hP)
theorem Q8a (m : Nat) (l : List Int) : ∀ v, (far0 m l).getD v 0 ≤ 0 := by
  have key : ∀ (l s : List Int), (∀ v, s.getD v 0 ≤ 0) → ∀ v, (l.foldl (fun s w => s.set w.toNat 0) s).getD v 0 ≤ 0 := by
    intro l
    induction l with
    | nil => intro s h; exact h
    | cons a l ih =>
      intro s h
      rw [K1d]
      refine ih _ fun v => ?_
      by_cases c : a.toNat < s.length
      · rw [Qn s _ _ _ c]
        split
        · omega
        · exact h v
      · rw [List.set_eq_of_length_le (by omega)]
        exact h v
  refine key l _ fun v => ?_
  rw [K1, List.getElem?_replicate]
  split <;> simp
theorem Qbl {m : Nat} {G : List (List Int)} (hG : Gr m G) (l : List Int) (hw : ∀ w ∈ l, 0 ≤ w ∧ w < (m : Int)) : Pred G (farL G l) := by
  rw [farL, hG.len]
  refine Qd3 hG _ _ _ (Q4i m l hw) fun v _ h => ?_
  have := Q8a m l v
  omega
/-! graphs turned around -/
def Q2i (v : Int) (row : List Int) (o : List (List Int)) : List (List Int) := row.foldl (fun o w => o.set w.toNat (o.getD w.toNat [] ++ [v])) o
def Qs (g : List (List Int)) : List (List Int) := (List.range g.length).foldl (fun o (v : Nat) => Q2i (v : Int) (g.getD v []) o) (List.replicate g.length [])
def tot (o : List (List Int)) : Nat := (o.map List.length).sum
theorem Q74 (s : List (List Int)) (i j : Nat) (a : List Int) (hi : i < s.length) : (s.set i a).getD j [] = if i = j then a else s.getD j [] := by
  rw [K1, List.getElem?_set, K1]
  by_cases h : i = j
  · subst h; simp [hi]
  · simp [h]
theorem Qcv (o : List (List Int)) (i : Nat) (v : Int) (hi : i < o.length) : tot (o.set i (o.getD i [] ++ [v])) = tot o + 1 := by
  induction o generalizing i with
  | nil => simp at hi
  | cons a o ih =>
    cases i with
    | zero => simp [tot]; omega
    | succ i =>
      have := ih i (by simpa using hi)
      simp only [tot, List.set_cons_succ, K14, List.sum_cons, List.getD_cons_succ] at this ⊢
      omega
theorem Q8y (v : Int) (row : List Int) : ∀ o : List (List Int), (∀ w ∈ row, 0 ≤ w ∧ w < (o.length : Int)) →
    (Q2i v row o).length = o.length ∧ tot (Q2i v row o) = tot o + row.length ∧ ∀ (j : Nat) (x : Int), x ∈ (Q2i v row o).getD j [] ↔ x ∈ o.getD j [] ∨ (x = v ∧ (j : Int) ∈ row) := by
  induction row with
  | nil => intro o _; exact ⟨rfl, rfl, fun j x => by simp [Q2i]⟩
  | cons w row ih =>
    intro o hw
    have h0 := hw w Kp
    obtain ⟨g1, g2, g3⟩ := ih (o.set w.toNat (o.getD w.toNat [] ++ [v])) (fun x hx => by rw [Ku]; exact hw x (K8 _ hx))
    refine ⟨by rw [Q2i, K1d]; rw [Q2i] at g1; rw [g1, Ku], ?_, fun j x => ?_⟩
    · rw [Q2i, K1d]
      rw [Q2i] at g2
      rw [g2, Qcv _ _ _ (by omega), Ks]
      omega
    · rw [Q2i, K1d]
      have := g3 j x
      rw [Q2i] at this
      rw [this, Q74 o _ _ _ (by omega)]
      by_cases e : w.toNat = j
      · have e2 : (j : Int) = w := by omega
        rw [if_pos e, e, Kh, K18, Kd]
        constructor
        · rintro ((h | h) | ⟨h, h2⟩)
          · exact .inl h
          · exact .inr ⟨h, .inl e2⟩
          · exact .inr ⟨h, .inr h2⟩
        · rintro (h | ⟨h, h2⟩)
          · exact .inl (.inl h)
          · exact .inl (.inr h)
      · have e2 : (j : Int) ≠ w := by omega
        rw [if_neg e, Kd]
        constructor
        · rintro (h | ⟨h, h2⟩)
          · exact .inl h
          · exact .inr ⟨h, .inr h2⟩
        · rintro (h | ⟨h, h2⟩)
          · exact .inl h
          · exact .inr ⟨h, h2.resolve_left e2⟩
theorem Q39 (g : List (List Int)) (hg : ∀ l ∈ g, ∀ w ∈ l, 0 ≤ w ∧ w < (g.length : Int)) (n : Nat) (hn : n ≤ g.length) :
    ((List.range n).foldl (fun o (v : Nat) => Q2i (v : Int) (g.getD v []) o) (List.replicate g.length [])).length = g.length ∧
    tot ((List.range n).foldl (fun o (v : Nat) => Q2i (v : Int) (g.getD v []) o) (List.replicate g.length [])) ≤ tot (g.take n) ∧
    ∀ (j : Nat) (x : Int), x ∈ ((List.range n).foldl (fun o (v : Nat) => Q2i (v : Int) (g.getD v []) o) (List.replicate g.length [])).getD j [] ↔ ∃ v : Nat, v < n ∧ x = (v : Int) ∧ (j : Int) ∈ g.getD v [] := by
  induction n with
  | zero =>
    refine ⟨by simp, ?_, fun j x => ?_⟩
    · have : ∀ k, tot (List.replicate k ([] : List Int)) = 0 := by
        intro k
        induction k with
        | zero => rfl
        | succ k ih => simp only [tot, List.replicate_succ, K14, List.sum_cons, List.length_nil, K1g] at ih ⊢; exact ih
      simp only [List.range_zero, List.foldl_nil, this]
      exact Nat.zero_le _
    · constructor
      · intro h
        rw [List.range_zero, List.foldl_nil, K1, List.getElem?_replicate] at h
        split at h <;> simp at h
      · rintro ⟨v, h, _⟩; omega
  | succ n ih =>
    obtain ⟨h1, h2, h3⟩ := ih (by omega)
    have hlt : n < g.length := by omega
    have e : g.getD n [] = g[n] := by simp [K1, hlt]
    rw [List.range_succ, List.foldl_append, K1d, List.foldl_nil]
    obtain ⟨g1, g2, g3⟩ := Q8y (n : Int) (g.getD n []) _ (fun w hw => by rw [h1]; exact hg _ (by rw [e]; exact K4 hlt) w hw)
    refine ⟨by rw [g1, h1], ?_, fun j x => ?_⟩
    · rw [g2, K1c hlt, e]
      simp only [tot, List.map_append, List.sum_append, K14, List.map_nil, List.sum_cons, List.sum_nil] at h2 ⊢
      omega
    · rw [g3, h3]
      constructor
      · rintro (⟨v, q1, q2, q3⟩ | ⟨q1, q2⟩)
        · exact ⟨v, by omega, q2, q3⟩
        · exact ⟨n, by omega, q1, q2⟩
      · rintro ⟨v, q1, q2, q3⟩
        by_cases hv : v = n
        · subst hv; exact .inr ⟨q2, q3⟩
        · exact .inl ⟨v, by omega, q2, q3⟩
theorem Q5s (o : List (List Int)) : ∀ l ∈ o, l.length ≤ tot o := by
  intro l hl
  induction o with
  | nil => cases hl
  | cons a o ih =>
    simp only [tot, K14, List.sum_cons]
    rcases Kd.1 hl with rfl | hl
    · omega
    · have := ih hl
      simp only [tot] at this
      omega
theorem Qen (o : List (List Int)) (B : Nat) (h : ∀ l ∈ o, l.length ≤ B) : tot o ≤ o.length * B := by
  induction o with
  | nil => simp [tot]
  | cons a o ih =>
    have h1 := h a Kp
    have h2 := ih fun l hl => h l (K8 _ hl)
    simp only [tot, K14, List.sum_cons, Ks, Nat.succ_mul] at h2 ⊢
    omega
theorem Q7k {g : List (List Int)} (hg : ∀ l ∈ g, ∀ w ∈ l, 0 ≤ w ∧ w < (g.length : Int)) (j : Nat) (x : Int) : x ∈ (Qs g).getD j [] ↔ ∃ v : Nat, v < g.length ∧ x = (v : Int) ∧ (j : Int) ∈ g.getD v [] := (Q39 g hg g.length (K12 _)).2.2 j x
theorem Qeb {m : Nat} {g : List (List Int)} (hG : Gr m g) (hs : ∀ l ∈ g, l.length ≤ 2000) : Gr m (Qs g) := by
  have hg : ∀ l ∈ g, ∀ w ∈ l, 0 ≤ w ∧ w < (g.length : Int) := by rw [hG.len]; exact hG.inn
  obtain ⟨h1, h2, h3⟩ := Q39 g hg g.length (K12 _)
  have hsm := hG.small
  refine ⟨by rw [← hG.len]; exact h1, fun l hl w hw => ?_, fun l hl => ?_, hsm⟩
  · obtain ⟨j, hj, rfl⟩ := List.getElem_of_mem hl
    have e : (Qs g).getD j [] = (Qs g)[j] := by simp [K1, hj]
    rw [← e] at hw
    obtain ⟨v, hv, rfl, _⟩ := (Q7k hg j w).1 hw
    rw [← hG.len]
    exact ⟨Int.natCast_nonneg _, by omega⟩
  · have q1 := Q5s _ l hl
    have q2 := Qen g 2000 hs
    rw [K1i (K12 _)] at h2
    have q3 : tot (Qs g) ≤ tot g := h2
    rw [hG.len] at q2
    have : m * 2000 ≤ 10000 * 2000 := Ko _ hsm
    omega
/-- where a graph's rows are turned, as the two functions do it -/
theorem Qcw (t11 : Bool × List (Bool × List Int)) (t12 : Int) (t13 : Int) (v : Int) (b : Bool) (m : Nat) (hm : m ≤ 10000) (r : Bool × List Int) (hr : r.2.length ≤ 20000000) (hw : ∀ w ∈ r.2, 0 ≤ w ∧ w < (m : Int)) (d : Nat) : ∀ (i : Nat) (R : List (Bool × List Int)), i + d = r.2.length → R.length = m → tot (R.map Prod.snd) + d ≤ 200000000 →
    ∃ R' : List (Bool × List Int), R'.length = m ∧ R'.map Prod.snd = Q2i v (r.2.drop i) (R.map Prod.snd) ∧ F88 (b, R) v t11 t12 t13 r (r.2.length : Int) (i : Int) = some (b, R') ∧ Fa6 (b, R) v t11 t12 t13 r (r.2.length : Int) (i : Int) = some (b, R') := by
  have hlim := J7
  induction d with
  | zero =>
    intro i R hi hR ht
    exact ⟨R, hR, by rw [Ka (by omega)]; rfl, by rw [F88E, gF (by omega)], by rw [Fa6E, gF (by omega)]⟩
  | succ d ih =>
    intro i R hi hR ht
    have hlt : i < r.2.length := by omega
    have hx := hw _ (K4 hlt)
    have hj : Int.toNat r.2[i] < R.length := by omega
    have hrow : ((R.getD (Int.toNat r.2[i]) (true, [])).2).length ≤ tot (R.map Prod.snd) := by
      refine Q5s _ _ (Kt.2 ⟨R.getD (Int.toNat r.2[i]) (true, []), ?_, rfl⟩)
      have e : R.getD (Int.toNat r.2[i]) (true, []) = R[Int.toNat r.2[i]] := by simp [K1, hj]
      rw [e]
      exact K4 _
    have esnd : (R.map Prod.snd).getD (Int.toNat r.2[i]) [] = (R.getD (Int.toNat r.2[i]) (true, [])).2 := by simp [K1, hj]
    have emap : (R.set (Int.toNat r.2[i]) ((R.getD (Int.toNat r.2[i]) (true, [])).1 && false, (R.getD (Int.toNat r.2[i]) (true, [])).2 ++ [v])).map Prod.snd = (R.map Prod.snd).set (Int.toNat r.2[i]) ((R.map Prod.snd).getD (Int.toNat r.2[i]) [] ++ [v]) := by
      rw [List.map_set, esnd]
    have htot : tot ((R.set (Int.toNat r.2[i]) ((R.getD (Int.toNat r.2[i]) (true, [])).1 && false, (R.getD (Int.toNat r.2[i]) (true, [])).2 ++ [v])).map Prod.snd) = tot (R.map Prod.snd) + 1 := by
      rw [emap]
      exact Qcv _ _ _ (by simpa using hj)
    obtain ⟨R', g1, g2, g3, g4⟩ := ih (i + 1) (R.set (Int.toNat r.2[i]) ((R.getD (Int.toNat r.2[i]) (true, [])).1 && false, (R.getD (Int.toNat r.2[i]) (true, [])).2 ++ [v])) (by omega) (by rw [Ku]; exact hR) (by rw [htot]; omega)
    refine ⟨R', g1, ?_, ?_, ?_⟩
    · rw [g2, emap, K3 hlt, Q2i, Q2i, K1d]
    · rw [F88E, gT (by omega), gT (by omega), gT (by omega), J2 r.2 _ i hlt, gT hx.1, gT (by simp only; omega), gT (by simp only [K1z]; omega), gT hx.1, gT (by simp only; omega), bT (by simp), up1 i (by omega), J1, g3]
    · rw [Fa6E, gT (by omega), gT (by omega), gT (by omega), J2 r.2 _ i hlt, gT hx.1, gT (by simp only; omega), gT (by simp only [K1z]; omega), gT hx.1, gT (by simp only; omega), bT (by simp), up1 i (by omega), J1, g4]
theorem Q59 {m : Nat} {G : List (List Int)} (hG : Gr m G) (hs : ∀ l ∈ G, l.length ≤ 2000) (gb : Bool) {R : List (Bool × List Int)} (hR : R.map Prod.snd = G) : ∃ R' : List (Bool × List Int), R'.map Prod.snd = Qs G ∧ F13 (gb, R) = some (false, R') ∧ F12 (gb, R) = some (false, R') := by
  have hlim := J7
  have hsm := hG.small
  have hRl : R.length = m := by rw [← hG.len, ← hR, Ky]
  have hg : ∀ l ∈ G, ∀ w ∈ l, 0 ≤ w ∧ w < (G.length : Int) := by rw [hG.len]; exact hG.inn
  have ht : ∀ n, n ≤ m → tot (G.take n) ≤ 20000000 := by
    intro n hn
    have q := Qen (G.take n) 2000 fun l hl => hs l (List.mem_of_mem_take hl)
    have q2 : (G.take n).length ≤ 10000 := by rw [K1s, hG.len]; omega
    have : (G.take n).length * 2000 ≤ 10000 * 2000 := Ko _ q2
    omega
  have key : ∀ (d i : Nat) (Q : List (Bool × List Int)), i + d = m → Q.length = m → Q.map Prod.snd = (List.range i).foldl (fun o (v : Nat) => Q2i (v : Int) (G.getD v []) o) (List.replicate G.length []) →
      ∃ R' : List (Bool × List Int), R'.map Prod.snd = Qs G ∧ F90 (false, Q) (gb, R) (m : Int) (i : Int) = some (false, R') ∧ F7z (false, Q) (gb, R) (m : Int) (i : Int) = some (false, R') := by
    intro d
    induction d with
    | zero =>
      intro i Q hi hQ hq
      obtain rfl : i = m := by omega
      exact ⟨Q, by rw [hq, Qs, hG.len], by rw [F90E, gF (by omega)], by rw [F7zE, gF (by omega)]⟩
    | succ d ih =>
      intro i Q hi hQ hq
      have hlt : i < G.length := by rw [hG.len]; omega
      obtain ⟨r1, r2, r3⟩ := Q50 hR hlt
      obtain ⟨f1, f2, _⟩ := Q39 G hg i (by omega)
      have hti := ht i (by omega)
      have hsh := hs _ r3
      obtain ⟨Q', g1, g2, g3, g4⟩ := Qcw (gb, R) (m : Int) (i : Int) (i : Int) false m hsm (R.getD i (true, [])) (by rw [r2]; omega) (by rw [r2]; exact hG.inn _ r3) (R.getD i (true, [])).2.length 0 Q (by omega) hQ (by rw [hq, r2]; omega)
      have g3' : F88 (false, Q) (i : Int) (gb, R) (m : Int) (i : Int) (R.getD i (true, [])) ((R.getD i (true, [])).2.length : Int) 0 = _ := g3
      have g4' : Fa6 (false, Q) (i : Int) (gb, R) (m : Int) (i : Int) (R.getD i (true, [])) ((R.getD i (true, [])).2.length : Int) 0 = _ := g4
      obtain ⟨R', k1, k2, k3⟩ := ih (i + 1) Q' (by omega) g1 (by rw [g2, Kg, r2, hq, List.range_succ, List.foldl_append]; rfl)
      refine ⟨R', k1, ?_, ?_⟩
      · rw [F90E, gT (by omega), gT (by omega), gT (by simp only; omega), K7]
        simp only [g3', J0]
        rw [up1 i (by omega), J1, k2]
      · rw [F7zE, gT (by omega), gT (by omega), gT (by simp only; omega), K7]
        simp only [g4', J0]
        rw [up1 i (by omega), J1, k3]
  have hrep : (List.replicate m ((true, []) : Bool × List Int)).map Prod.snd = List.replicate m [] := by simp
  obtain ⟨R', k1, k2, k3⟩ := key m 0 (List.replicate m (true, [])) (by omega) (by simp) (by rw [hrep, hG.len]; rfl)
  have k2' : F90 (false, List.replicate m (true, [])) (gb, R) (m : Int) 0 = _ := k2
  have k3' : F7z (false, List.replicate m (true, [])) (gb, R) (m : Int) 0 = _ := k3
  refine ⟨R', k1, ?_, ?_⟩
  · rw [F13E]
    simp only [hRl, K7]
    rw [gT (by omega), gT (by omega), gT (by omega), gT (by omega), k2', J0]
  · rw [F12E]
    simp only [hRl, K7]
    rw [gT (by omega), gT (by omega), gT (by omega), gT (by omega), k3', J0]
/-! the way -/
def Q2k (s : List Int) (best v : Int) : Int := if s.getD v.toNat 0 ≥ 0 then (if best < 0 then v else if s.getD v.toNat 0 < s.getD best.toNat 0 then v else best) else best
def Q1a (s l : List Int) : Int := l.foldl (Q2k s) (-1)
theorem Q6u (g : Bool × List (Bool × List Int)) (b : Bool) (s : List Int) (l : Bool × List Int) (hl : l.2.length ≤ 1048576) (hw : ∀ w ∈ l.2, 0 ≤ w ∧ w < (s.length : Int)) :
    F4l g (b, s) (-1) l (l.2.length : Int) 0 = some (Q1a s l.2) ∧ F4f g (b, s) (-1) l (l.2.length : Int) 0 = some (Q1a s l.2) ∧ (Q1a s l.2 < 0 ∨ (Q1a s l.2 < (s.length : Int) ∧ 0 ≤ s.getD (Q1a s l.2).toNat 0)) := by
  have hin : ∀ (i : Nat) (h : i < l.2.length) (best : Int), (best < 0 ∨ (best < (s.length : Int) ∧ 0 ≤ s.getD best.toNat 0)) → (Q2k s best l.2[i] < 0 ∨ (Q2k s best l.2[i] < (s.length : Int) ∧ 0 ≤ s.getD (Q2k s best l.2[i]).toNat 0)) := by
    intro i h best hb
    have hx := hw _ (K4 h)
    unfold Q2k
    split
    · split
      · exact .inr ⟨hx.2, by omega⟩
      · split
        · exact .inr ⟨hx.2, by omega⟩
        · exact hb
    · exact hb
  refine ⟨?_, ?_, ?_⟩
  · exact Jx l.2 (Q2k s) (fun b => b) (fun best i => F4l g (b, s) best l (l.2.length : Int) i) (fun _ best => best < 0 ∨ (best < (s.length : Int) ∧ 0 ≤ s.getD best.toNat 0)) (fun i h best hb => by
      have hx := hw _ (K4 h)
      refine ⟨?_, hin i h best hb⟩
      rw [F4lE, gT (by omega), gT (by omega), gT (by omega), J2 l.2 _ i h, gT hx.1, gT (by simp only; omega), up1 i (by omega)]
      unfold Q2k
      by_cases c1 : s.getD (Int.toNat l.2[i]) 0 ≥ 0
      · rw [gT c1, if_pos c1]
        by_cases c2 : best < 0
        · rw [gT c2, if_pos c2, J1]
        · have hb2 := hb.resolve_left c2
          rw [gF c2, if_neg c2, gT hx.1, gT (by simp only; omega), gT (by omega), gT (by simp only; omega)]
          by_cases c3 : s.getD (Int.toNat l.2[i]) 0 < s.getD (Int.toNat best) 0
          · rw [gT c3, if_pos c3, J1]
          · rw [gF c3, if_neg c3, J1]
      · rw [gF c1, if_neg c1, J1]) (fun best _ => by rw [F4lE, gF (by omega)]) (-1) (.inl (by decide))
  · exact Jx l.2 (Q2k s) (fun b => b) (fun best i => F4f g (b, s) best l (l.2.length : Int) i) (fun _ best => best < 0 ∨ (best < (s.length : Int) ∧ 0 ≤ s.getD best.toNat 0)) (fun i h best hb => by
      have hx := hw _ (K4 h)
      refine ⟨?_, hin i h best hb⟩
      rw [F4fE, gT (by omega), gT (by omega), gT (by omega), J2 l.2 _ i h, gT hx.1, gT (by simp only; omega), up1 i (by omega)]
      unfold Q2k
      by_cases c1 : s.getD (Int.toNat l.2[i]) 0 ≥ 0
      · rw [gT c1, if_pos c1]
        by_cases c2 : best < 0
        · rw [gT c2, if_pos c2, J1]
        · have hb2 := hb.resolve_left c2
          rw [gF c2, if_neg c2, gT hx.1, gT (by simp only; omega), gT (by omega), gT (by simp only; omega)]
          by_cases c3 : s.getD (Int.toNat l.2[i]) 0 < s.getD (Int.toNat best) 0
          · rw [gT c3, if_pos c3, J1]
          · rw [gF c3, if_neg c3, J1]
      · rw [gF c1, if_neg c1, J1]) (fun best _ => by rw [F4fE, gF (by omega)]) (-1) (.inl (by decide))
  · have key : ∀ (l : List Int), (∀ w ∈ l, 0 ≤ w ∧ w < (s.length : Int)) → ∀ best : Int, (best < 0 ∨ (best < (s.length : Int) ∧ 0 ≤ s.getD best.toNat 0)) → (l.foldl (Q2k s) best < 0 ∨ (l.foldl (Q2k s) best < (s.length : Int) ∧ 0 ≤ s.getD (l.foldl (Q2k s) best).toNat 0)) := by
      intro l
      induction l with
      | nil => intro _ best h; exact h
      | cons a l ih =>
        intro hw best hb
        rw [K1d]
        refine ih (fun w h => hw w (K8 _ h)) _ ?_
        have hx := hw a Kp
        unfold Q2k
        split
        · split
          · exact .inr ⟨hx.2, by omega⟩
          · split
            · exact .inr ⟨hx.2, by omega⟩
            · exact hb
        · exact hb
    exact key l.2 hw (-1) (.inl (by decide))
/-- the next point of a shortest way -/
def Q3n (g : List (List Int)) (s : List Int) (v : Int) : Int := ((g.getD v.toNat []).find? fun w => s.getD w.toNat 0 == s.getD v.toNat 0 - 1).getD v
def wayL (g : List (List Int)) (s : List Int) : Nat → Int → List Int → List Int
  | 0, _, out => out
  | n + 1, v, out => if s.getD v.toNat 0 > 0 then wayL g s n (Q3n g s v) (out ++ [Q3n g s v]) else out
theorem Qf6 (nx : Bool × List (Bool × List Int)) (b : Bool) (s : List Int) (best : Int) (hb : 0 ≤ best ∧ best < (s.length : Int)) (h0 : -10 ≤ s.getD best.toNat 0 ∧ s.getD best.toNat 0 ≤ 200000000) (out : Bool × List Int) (r : Bool × List Int) (hr : r.2.length ≤ 20000000) (hw : ∀ w ∈ r.2, 0 ≤ w ∧ w < (s.length : Int)) (d : Nat) : ∀ (i : Nat), i + d = r.2.length →
    F9g nx (b, s) best out r (r.2.length : Int) (i : Int) = some (((r.2.drop i).find? fun w => s.getD w.toNat 0 == s.getD best.toNat 0 - 1).getD best) := by
  induction d with
  | zero =>
    intro i hi
    rw [F9gE, gF (by omega), Ka (by omega)]
    rfl
  | succ d ih =>
    intro i hi
    have hlt : i < r.2.length := by omega
    have hx := hw _ (K4 hlt)
    rw [F9gE, gT (by omega), gT (by omega), gT (by omega), J2 r.2 _ i hlt, gT hx.1, gT (by simp only; omega), gT hb.1, gT (by simp only; omega), wr (by simp only; omega), up1 i (by omega), K3 hlt, List.find?_cons]
    simp only
    cases hh : (s.getD (Int.toNat r.2[i]) 0 == s.getD (Int.toNat best) 0 - 1) with
    | true => rfl
    | false => rw [cond_false, J1, ih (i + 1) (by omega)]
theorem Q8b {l : List Int} {i : Nat} (h : i < l.length) : l.getD i 0 = l[i] := by simp [K1, h]
theorem Q9f {α : Type} (q : α → Bool) (l : List α) (h : l.findIdx q < l.length) : l.find? q = some (l[l.findIdx q]'h) := by
  induction l with
  | nil => simp at h
  | cons a l ih =>
    rw [List.find?_cons]
    cases hq : q a with
    | true => simp [List.findIdx_cons, hq]
    | false =>
      simp only [List.findIdx_cons, hq, cond_false, Ks] at h ⊢
      rw [ih (by omega)]
      rfl
theorem Qad (s : List Int) (b : Bool) (best : Int) (hb : 0 ≤ best ∧ best < (s.length : Int)) (h0 : -10 ≤ s.getD best.toNat 0 ∧ s.getD best.toNat 0 ≤ 200000000) (r : Bool × List Int) (hr : r.2.length ≤ 20000000) (hw : ∀ w ∈ r.2, 0 ≤ w ∧ w < (s.length : Int)) (hex : ∃ u ∈ r.2, s.getD u.toNat 0 = s.getD best.toNat 0 - 1) :
    ∃ k : Nat, k < r.2.length ∧ F36 r ((b, s), (best, ())) = some (k : Int) ∧ r.2.getD k 0 = (r.2.find? fun w => s.getD w.toNat 0 == s.getD best.toNat 0 - 1).getD best ∧ r.2.getD k 0 ∈ r.2 ∧ s.getD (r.2.getD k 0).toNat 0 = s.getD best.toNat 0 - 1 := by
  have h := Ja r.2 (fun w => s.getD w.toNat 0 == s.getD best.toNat 0 - 1) (fun i => F7f r ((b, s), (best, ())) (r.2.length : Int) i) (fun i hi => by
    have hx := hw _ (K4 hi)
    rw [F7fE, gT (by omega), gT (by omega), gT (by omega), J2 r.2 _ i hi, F5eE, gT hx.1, gT (by simp only; omega), gT hb.1, gT (by simp only; omega), wr (by simp only; omega), J0, up1 i (by omega), J1]) (by rw [F7fE, gF (by omega)])
  obtain ⟨u, hu, hu2⟩ := hex
  have hany : (r.2.any fun w => s.getD w.toNat 0 == s.getD best.toNat 0 - 1) = true := K11.2 ⟨u, hu, by rw [beq_iff_eq]; exact hu2⟩
  have hk : r.2.findIdx (fun w => s.getD w.toNat 0 == s.getD best.toNat 0 - 1) < r.2.length := List.findIdx_lt_length.2 (K11.1 hany)
  have hg := List.findIdx_getElem (p := fun w : Int => s.getD w.toNat 0 == s.getD best.toNat 0 - 1) (xs := r.2) (w := hk)
  refine ⟨_, hk, ?_, ?_, ?_, ?_⟩
  · rw [F36E]
    show ((F7f r ((b, s), (best, ())) (r.2.length : Int) 0).bind _) = _
    rw [h, hany]
    rfl
  · have e : r.2.getD (r.2.findIdx fun w => s.getD w.toNat 0 == s.getD best.toNat 0 - 1) 0 = r.2[r.2.findIdx fun w => s.getD w.toNat 0 == s.getD best.toNat 0 - 1] := Q8b hk
    rw [e]
    have := Q9f (fun w : Int => s.getD w.toNat 0 == s.getD best.toNat 0 - 1) r.2 hk
    rw [this]
    rfl
  · have e : r.2.getD (r.2.findIdx fun w => s.getD w.toNat 0 == s.getD best.toNat 0 - 1) 0 = r.2[r.2.findIdx fun w => s.getD w.toNat 0 == s.getD best.toNat 0 - 1] := Q8b hk
    rw [e]
    exact K4 _
  · have e : r.2.getD (r.2.findIdx fun w => s.getD w.toNat 0 == s.getD best.toNat 0 - 1) 0 = r.2[r.2.findIdx fun w => s.getD w.toNat 0 == s.getD best.toNat 0 - 1] := Q8b hk
    rw [e]
    exact beq_iff_eq.1 hg
/-- the walk along a shortest way -/
theorem Q6r {m : Nat} {G : List (List Int)} (hG : Gr m G) (gb gb2 : Bool) {R R2 : List (Bool × List Int)} (hR : R.map Prod.snd = G) (hR2 : R2.map Prod.snd = G) (s : List Int) (hs : s.length = m) (hlo : ∀ e ∈ s, -1 ≤ e ∧ e ≤ 10000) (hP : ∀ v : Nat, v < m → 0 < s.getD v 0 → ∃ u ∈ G.getD v [], s.getD u.toNat 0 = s.getD v 0 - 1) (n : Nat) : ∀ (v : Int) (out : List Int) (b b2 : Bool), 0 ≤ v ∧ v < (m : Int) → s.getD v.toNat 0 ≤ n → out.length + n ≤ 200000000 →
    F9z (gb, R) (b, s) (false, out) v = some (false, wayL G s n v out) ∧ F7s (gb2, R2) (b2, s) v (false, out) = some (false, wayL G s n v out) ∧ (wayL G s n v out).length ≤ out.length + n := by
  have hlim := J7
  have hsm := hG.small
  induction n with
  | zero =>
    intro v out b b2 hv hn ho
    refine ⟨?_, ?_, K12 _⟩
    · rw [F9zE, gT hv.1, gT (by simp only; omega), gF (by simp only; omega)]
      rfl
    · rw [F7sE, gT hv.1, gT (by simp only; omega), gF (by simp only; omega)]
      rfl
  | succ n ih =>
    intro v out b b2 hv hn ho
    by_cases c : s.getD v.toNat 0 > 0
    · have hvl : v.toNat < s.length := by omega
      have hb := hlo _ (Q3j hvl)
      have hvG : v.toNat < G.length := by rw [hG.len]; omega
      obtain ⟨r1, r2, r3⟩ := Q50 hR hvG
      obtain ⟨r4, r5, _⟩ := Q50 hR2 hvG
      have hin := hG.inn _ r3
      have hsh := hG.short _ r3
      have hRl : R.length = m := by rw [← hG.len, ← hR, Ky]
      have hRl2 : R2.length = m := by rw [← hG.len, ← hR2, Ky]
      obtain ⟨u, hu, hu2⟩ := hP v.toNat (by omega) c
      obtain ⟨k, k1, k2, k3, k4, k5⟩ := Qad s b v (by omega) (by omega) (R.getD v.toNat (true, [])) (by rw [r2]; exact hsh) (by rw [r2]; intro w hw; have := hin w hw; omega) (by rw [r2]; exact ⟨u, hu, hu2⟩)
      have hnear : Q3n G s v = (R.getD v.toNat (true, [])).2.getD k 0 := by
        rw [k3, r2]; rfl
      rw [r2] at k4
      have hnin := hin _ k4
      have hval : s.getD (Q3n G s v).toNat 0 = s.getD v.toNat 0 - 1 := by rw [hnear]; exact k5
      have hnn : 0 ≤ Q3n G s v ∧ Q3n G s v < (m : Int) := by rw [hnear, r2]; exact hnin
      obtain ⟨i1, i2, i3⟩ := ih (Q3n G s v) (out ++ [Q3n G s v]) b b2 hnn (by omega) (by simp; omega)
      have ew : wayL G s (n + 1) v out = wayL G s n (Q3n G s v) (out ++ [Q3n G s v]) := by rw [wayL, if_pos c]
      rw [ew]
      refine ⟨?_, ?_, by simp at i3; omega⟩
      · rw [F9zE, gT hv.1, gT (by simp only; omega), gT c, gT hv.1, gT (by simp only; omega), k2, J0, gT hv.1, gT (by simp only; omega), gT (by omega), gT (by simp only; omega), K7, ← hnear, gT (by simp; omega), J1, K1r, i1]
      · have e4 := Qf6 (gb2, R2) b2 s v (by omega) (by omega) (false, out) (R2.getD v.toNat (true, [])) (by rw [r5]; exact hsh) (by rw [r5]; intro w hw; have := hin w hw; omega) (R2.getD v.toNat (true, [])).2.length 0 (by omega)
        rw [Kg] at e4
        have e4' : F9g (gb2, R2) (b2, s) v (false, out) (R2.getD v.toNat (true, [])) ((R2.getD v.toNat (true, [])).2.length : Int) 0 = some (Q3n G s v) := by
          refine Eq.trans e4 ?_
          rw [r5]
          rfl
        rw [F7sE, gT hv.1, gT (by simp only; omega), gT c, gT hv.1, gT (by simp only; omega)]
        simp only [e4', J0]
        rw [gT (by simp; omega), J1, K1r, i2]
    · have ew : wayL G s (n + 1) v out = out := by rw [wayL, if_neg c]
      rw [ew]
      refine ⟨?_, ?_, by omega⟩
      · rw [F9zE, gT hv.1, gT (by simp only; omega), gF c]
      · rw [F7sE, gT hv.1, gT (by simp only; omega), gF c]
/-- a shortest way, and whether there is one -/
def Q3l (G : List (List Int)) (from_ to : List Int) : Option (List Int) :=
  let s := farL (Qs G) to
  if Q1a s from_ < 0 then none else some (wayL G s G.length (Q1a s from_) [Q1a s from_])
theorem Q43 {m : Nat} {G : List (List Int)} (hG : Gr m G) (hs : ∀ l ∈ G, l.length ≤ 2000) (hm : 1 ≤ m) (gb gb2 fb fb2 tb : Bool) {R R2 : List (Bool × List Int)} (hR : R.map Prod.snd = G) (hR2 : R2.map Prod.snd = G) (fr to : List Int) (hf : fr.length ≤ 10000) (hfw : ∀ w ∈ fr, 0 ≤ w ∧ w < (m : Int)) (ht : to.length ≤ 10000) (htw : ∀ w ∈ to, 0 ≤ w ∧ w < (m : Int)) :
    Ff (gb, R) (fb, fr) (false, to) = some (match Q3l G fr to with
      | some l => (false, l)
      | none => (true, [])) ∧ Fg (gb2, R2) (fb2, fr) (tb, to) = some (match Q3l G fr to with
      | some l => ((false, l), true)
      | none => ((true, []), false)) ∧ ∀ l, Q3l G fr to = some l → l.length ≤ 100000 := by
  have hT := Qeb hG hs
  have hsm := hG.small
  have hg : ∀ l ∈ G, ∀ w ∈ l, 0 ≤ w ∧ w < (G.length : Int) := by rw [hG.len]; exact hG.inn
  obtain ⟨Q, q1, q2, _⟩ := Q59 hG hs gb hR
  obtain ⟨Q2, p1, _, p3⟩ := Q59 hG hs gb2 hR2
  have e1 := Q7s hT hm false q1 to ht htw
  have e2 := Qeg hT false tb p1 to ht htw
  have hI := Q4j hT to ht htw
  have hP := Qbl hT to htw
  have hlen := hI.len
  obtain ⟨b1, _, b3⟩ := Q6u (gb, R) false (farL (Qs G) to) (fb, fr) (by simp only; omega) (by rw [hlen]; exact hfw)
  obtain ⟨_, b2, _⟩ := Q6u (gb2, R2) false (farL (Qs G) to) (fb2, fr) (by simp only; omega) (by rw [hlen]; exact hfw)
  have hlo : ∀ e ∈ farL (Qs G) to, -1 ≤ e ∧ e ≤ 10000 := fun e he => ⟨hI.low e he, by have := hI.high e he; omega⟩
  have hP2 : ∀ v : Nat, v < m → 0 < (farL (Qs G) to).getD v 0 → ∃ u ∈ G.getD v [], (farL (Qs G) to).getD u.toNat 0 = (farL (Qs G) to).getD v 0 - 1 := by
    intro v hv h0
    obtain ⟨u, u1, u2, u3⟩ := hP v (by omega) h0
    obtain ⟨v', _, hv2, hv3⟩ := (Q7k hg u (v : Int)).1 u2
    have : v' = v := by omega
    subst this
    exact ⟨(u : Int), hv3, by rw [K7]; exact u3⟩
  have hbest : ∀ (c : ¬ Q1a (farL (Qs G) to) fr < 0), 0 ≤ Q1a (farL (Qs G) to) fr ∧ Q1a (farL (Qs G) to) fr < (m : Int) ∧ (farL (Qs G) to).getD (Q1a (farL (Qs G) to) fr).toNat 0 ≤ (m : Int) := by
    intro c
    have h2 := b3.resolve_left c
    have hmem := Q3j (s := farL (Qs G) to) (i := (Q1a (farL (Qs G) to) fr).toNat) (by simp only at h2; omega)
    have := hI.high _ hmem
    simp only at h2
    exact ⟨by omega, by omega, by omega⟩
  have e1' : Fj (false, Q) (false, to) = _ := e1
  refine ⟨?_, ?_, ?_⟩
  · rw [FfE, q2, J0, e1', J0, b1, J0, Q3l]
    simp only
    by_cases c : Q1a (farL (Qs G) to) fr < 0
    · rw [gT c, if_pos c]
    · obtain ⟨w0, w1, w2⟩ := hbest c
      obtain ⟨i1, _, _⟩ := Q6r hG gb gb2 hR hR2 (farL (Qs G) to) hlen hlo hP2 m (Q1a (farL (Qs G) to) fr) [Q1a (farL (Qs G) to) fr] false false ⟨w0, w1⟩ w2 (by simp; omega)
      rw [gF c, if_neg c, i1, J0, hG.len]
  · rw [FgE, p3, J0, e2, J0, b2, J0, Q3l]
    simp only
    by_cases c : Q1a (farL (Qs G) to) fr < 0
    · rw [gT c, if_pos c]
    · obtain ⟨w0, w1, w2⟩ := hbest c
      obtain ⟨_, i2, _⟩ := Q6r hG gb gb2 hR hR2 (farL (Qs G) to) hlen hlo hP2 m (Q1a (farL (Qs G) to) fr) [Q1a (farL (Qs G) to) fr] false false ⟨w0, w1⟩ w2 (by simp; omega)
      rw [gF c, if_neg c, i2, J0, hG.len]
  · intro l hl
    unfold Q3l at hl
    by_cases c : Q1a (farL (Qs G) to) fr < 0
    · rw [if_pos c] at hl; cases hl
    · rw [if_neg c, hG.len] at hl
      obtain ⟨w0, w1, w2⟩ := hbest c
      obtain ⟨_, _, i3⟩ := Q6r hG gb gb2 hR hR2 (farL (Qs G) to) hlen hlo hP2 m (Q1a (farL (Qs G) to) fr) [Q1a (farL (Qs G) to) fr] false false ⟨w0, w1⟩ w2 (by simp; omega)
      rw [← Option.some.inj hl]
      simp at i3
      omega
/-- a shortest path of classes from the start to those of a condition -/
noncomputable def tryL (p : DProgram) (v : List Int) (t : List DNode) : Option (List Int) := Q3l (Q1n p v) (Qu p v p.2.2.1.2) (Qu p v t)
theorem Q2y {p : DProgram} {v : List Int} (h : Sees p v) (t : List DNode) : (Qu p v t).length ≤ 10000 ∧ ∀ w ∈ Qu p v t, 0 ≤ w ∧ w < ((Q1s v).toNat : Int) := by
  obtain ⟨c1, c2, c3⟩ := Q1j h
  obtain ⟨w1, w2⟩ := Q3v h t
  rw [c2]
  exact ⟨by omega, w1⟩
theorem Q9w {p : DProgram} {v : List Int} (h : Sees p v) (f : Bool) (t : Bool × List DNode) (ht : WfN t.2) (hk : Q1 p.1 p.2.1 t.2 ≠ 0) :
    F56 p (f, v) t = some (match tryL p v t.2 with
      | some l => (false, l)
      | none => (true, [])) := by
  obtain ⟨c1, c2, c3⟩ := Q1j h
  have hm := h.manyV
  have hlen := h.len
  have hl1 := Qg p p.2.2.1.2 0 (Q0 p)
  have hl2 := Qg p t.2 0 (Q0 p)
  obtain ⟨b1, e1⟩ := Q91 h.ok.sml p.2.2.1 h.ok.wf.1 h.start
  obtain ⟨b2, e2⟩ := Q91 h.ok.sml t ht hk
  have e3 : F1m (f, v) (b1, Q3 p p.2.2.1.2 0 (Q0 p)) = some (false, Qu p v p.2.2.1.2) := h.clsP (b1, Q3 p p.2.2.1.2 0 (Q0 p)) (by simp only; omega) (fun x hx => (Ql.1 hx).1) f
  have e4 : F1m (f, v) (b2, Q3 p t.2 0 (Q0 p)) = some (false, Qu p v t.2) := h.clsP (b2, Q3 p t.2 0 (Q0 p)) (by simp only; omega) (fun x hx => (Ql.1 hx).1) f
  obtain ⟨a1, a2⟩ := Q2y h p.2.2.1.2
  obtain ⟨a3, a4⟩ := Q2y h t.2
  obtain ⟨e5, _, _⟩ := Q43 (Q1w h) (fun l hl => Kx (Q27 h l hl) (by omega)) c1 false false false false false (Q1q (Q1n p v) (fun _ => false)) (Q1q (Q1n p v) (fun _ => false)) (Qu p v p.2.2.1.2) (Qu p v t.2) a1 a2 a3 a4
  rw [F56E, Q5l h f, J0, e1, J0]
  simp only [e3, e2, e4, J0, e5]
  rfl
theorem Qej {p : DProgram} {v : List Int} (h : Sees p v) (f : Bool) (t : Bool × List DNode) (ht : WfN t.2) (hk : Q1 p.1 p.2.1 t.2 ≠ 0) :
    F6a p (f, v) t = some (match tryL p v t.2 with
      | some l => ((false, l), true)
      | none => ((true, []), false)) := by
  obtain ⟨c1, c2, c3⟩ := Q1j h
  have hm := h.manyV
  have hlen := h.len
  have hl1 := Qg p p.2.2.1.2 0 (Q0 p)
  have hl2 := Qg p t.2 0 (Q0 p)
  obtain ⟨b1, e1⟩ := Q42 h.ok.sml p.2.2.1 h.ok.wf.1 h.start
  obtain ⟨b2, e2⟩ := Q42 h.ok.sml t ht hk
  obtain ⟨b3, e3⟩ : ∃ b3, F1h (f, v) (b1, Q3 p p.2.2.1.2 0 (Q0 p)) = some (b3, Qu p v p.2.2.1.2) := h.clsS (b1, Q3 p p.2.2.1.2 0 (Q0 p)) (by simp only; omega) (fun x hx => (Ql.1 hx).1) f
  obtain ⟨b4, e4⟩ : ∃ b4, F1h (f, v) (b2, Q3 p t.2 0 (Q0 p)) = some (b4, Qu p v t.2) := h.clsS (b2, Q3 p t.2 0 (Q0 p)) (by simp only; omega) (fun x hx => (Ql.1 hx).1) f
  obtain ⟨b6, R, e6, hR⟩ := Q9i h f
  obtain ⟨a1, a2⟩ := Q2y h p.2.2.1.2
  obtain ⟨a3, a4⟩ := Q2y h t.2
  obtain ⟨_, e5, _⟩ := Q43 (Q1w h) (fun l hl => Kx (Q27 h l hl) (by omega)) c1 false b6 false b3 b4 (Q1q (Q1n p v) (fun _ => false)) hR (Qu p v p.2.2.1.2) (Qu p v t.2) a1 a2 a3 a4
  rw [F6aE, e1, J0]
  simp only [e3, e6, e2, e4, J0, e5]
  rfl
theorem Q58 {p : DProgram} {v : List Int} (h : Sees p v) (t : List DNode) : ∀ l, tryL p v t = some l → l.length ≤ 100000 := by
  obtain ⟨c1, c2, c3⟩ := Q1j h
  obtain ⟨a1, a2⟩ := Q2y h p.2.2.1.2
  obtain ⟨a3, a4⟩ := Q2y h t
  exact (Q43 (Q1w h) (fun l hl => Kx (Q27 h l hl) (by omega)) c1 false false false false false (Q1q (Q1n p v) (fun _ => false)) (Q1q (Q1n p v) (fun _ => false)) (Qu p v p.2.2.1.2) (Qu p v t) a1 a2 a3 a4).2.2
theorem Qe3 {a : Bool × List (Bool × List DNode)} (w : WfD (.sl (.sl tyNode)) a) : a.2.length ≤ big ∧ (∀ x ∈ a.2, x.2.length ≤ big) ∧ ∀ t ∈ Q2z a.2, WfN t.2 := by
  refine ⟨w.2.1, fun x hx => (w.2.2 x hx).2.1, fun t ht => ?_⟩
  obtain ⟨x, hx, rfl⟩ := Kt.1 ht
  exact (show WfN x.2 from Q2j (w.2.2 x hx))
def Qat (X : List (Bool × List Int)) (k : Nat) : List Int := (X.getD k (true, [])).2
/-- what some puts hand to a row -/
def pick (S : List (Nat × Int)) (k : Nat) : List Int := (S.filter fun e => e.1 == k).map Prod.snd
theorem Q8q (S S' : List (Nat × Int)) (k : Nat) : pick (S ++ S') k = pick S k ++ pick S' k := by
  simp [pick]
theorem Q8r (S : List (Nat × Int)) (k : Nat) : (pick S k).length ≤ S.length := by
  rw [pick, Ky]
  exact K1q _ _
/-- rows, with some puts done -/
structure Did (X X' : List (Bool × List Int)) (S : List (Nat × Int)) : Prop where
  len : X'.length = X.length
  row : ∀ k : Nat, k < X.length → Qat X' k = Qat X k ++ pick S k
def Bnd (X : List (Bool × List Int)) (n : Nat) : Prop := ∀ k : Nat, k < X.length → (Qat X k).length ≤ n
theorem Did.refl (X : List (Bool × List Int)) : Did X X [] := ⟨rfl, fun k _ => by simp [pick]⟩
theorem Did.trans {X X' X'' : List (Bool × List Int)} {S S' : List (Nat × Int)} (h : Did X X' S) (h' : Did X' X'' S') : Did X X'' (S ++ S') := by
  refine ⟨by rw [h'.len, h.len], fun k hk => ?_⟩
  rw [h'.row k (by rw [h.len]; exact hk), h.row k hk, Q8q, Kk]
theorem Did.bnd {X X' : List (Bool × List Int)} {S : List (Nat × Int)} (h : Did X X' S) {n : Nat} (hb : Bnd X n) : Bnd X' (n + S.length) := by
  intro k hk
  rw [h.len] at hk
  rw [h.row k hk, Kj]
  have := hb k hk
  have := Q8r S k
  omega
theorem Did.put {X : List (Bool × List Int)} {k : Nat} (hk : k < X.length) (b : Bool) (z : Int) : Did X (X.set k (b, Qat X k ++ [z])) [(k, z)] := by
  refine ⟨Ku, fun j hj => ?_⟩
  by_cases e : k = j
  · subst e
    simp [Qat, K1, hk, pick]
  · have e' : (k == j) = false := by rw [beq_eq_false_iff_ne]; exact e
    simp [Qat, K1, List.getElem?_set_ne e, pick, e']
theorem flatMap_nil {α β : Type} (l : List α) (P : α → List β) (h : ∀ a ∈ l, P a = []) : l.flatMap P = [] := by
  induction l with
  | nil => rfl
  | cons a l ih => rw [K13, h a Kp, ih fun b hb => h b (K8 _ hb)]; rfl
/-- numbers by first look -/
def numF {α : Type} [BEq α] : List α → List α → List Int
  | [], _ => []
  | x :: l, K => match K.findIdx? (fun y => x == y) with
    | some i => (i : Int) :: numF l K
    | none => (K.length : Int) :: numF l (K ++ [x])
def numL {α : Type} [BEq α] (l : List α) : List Int := numF l []
theorem Q35 {α : Type} [BEq α] (l : List α) : ∀ K, (numF l K).length = l.length := by
  induction l with
  | nil => intro K; rfl
  | cons x l ih =>
    intro K
    rw [numF]
    split
    · simp [ih]
    · simp [ih]
theorem findIdx?_lt {α : Type} {K : List α} {q : α → Bool} {i : Nat} (h : K.findIdx? q = some i) : i < K.length := by
  rw [List.findIdx?_eq_some_iff_getElem] at h
  exact h.1
theorem findIdx?_more {α : Type} {K L : List α} {q : α → Bool} {i : Nat} (h : K.findIdx? q = some i) : (K ++ L).findIdx? q = some i := by
  rw [List.findIdx?_append, h]
  rfl
theorem findIdx?_new {α : Type} {K : List α} {q : α → Bool} {x : α} (h : K.findIdx? q = none) (hx : q x = true) : (K ++ [x]).findIdx? q = some K.length := by
  rw [List.findIdx?_append, h, List.findIdx?_cons, hx]
  simp
/-- the numbers are those of a good view -/
theorem Qap {α : Type} [BEq α] (l : List α) : ∀ K : List α, Q20 (K.length : Int) (numF l K) = true := by
  induction l with
  | nil => intro K; rfl
  | cons x l ih =>
    intro K
    rw [numF]
    split
    · rename_i i hi
      have hlt := findIdx?_lt hi
      rw [Q20, decide_eq_true (by omega), K17, if_neg (by omega)]
      exact ih K
    · rw [Q20, decide_eq_true (by omega), K17, if_pos rfl]
      have := ih (K ++ [x])
      rw [Kj] at this
      exact this
/-- each number is the place of its key among the keys that were met -/
theorem Qdy {α : Type} [BEq α] [LawfulBEq α] (l : List α) : ∀ K : List α, ∃ L, ∀ (i : Nat) (hi : i < l.length), ∃ c : Nat, (K ++ L).findIdx? (fun y => l[i] == y) = some c ∧ (numF l K)[i]? = some (c : Int) := by
  induction l with
  | nil => intro K; exact ⟨[], fun i hi => absurd hi (by simp)⟩
  | cons x l ih =>
    intro K
    rw [numF]
    split
    · rename_i k hk
      obtain ⟨L, hL⟩ := ih K
      refine ⟨L, fun i hi => ?_⟩
      cases i with
      | zero => exact ⟨k, findIdx?_more hk, rfl⟩
      | succ i =>
        obtain ⟨c, h1, h2⟩ := hL i (by simpa using hi)
        exact ⟨c, h1, h2⟩
    · rename_i hk
      obtain ⟨L, hL⟩ := ih (K ++ [x])
      refine ⟨[x] ++ L, fun i hi => ?_⟩
      cases i with
      | zero =>
        refine ⟨K.length, ?_, rfl⟩
        rw [← Kk]
        exact findIdx?_more (findIdx?_new hk (by simp))
      | succ i =>
        obtain ⟨c, h1, h2⟩ := hL i (by simpa using hi)
        exact ⟨c, by rw [← Kk]; exact h1, h2⟩
theorem findIdx?_at {α : Type} [BEq α] [LawfulBEq α] {K : List α} {x : α} {i : Nat} (h : K.findIdx? (fun y => x == y) = some i) : K[i]? = some x := by
  rw [List.findIdx?_eq_some_iff_getElem] at h
  obtain ⟨h1, h2, _⟩ := h
  rw [Kb h1]
  exact congrArg some (eq_of_beq h2).symm
/-- keys are alike where their numbers are -/
theorem Qf4 {α : Type} [BEq α] [LawfulBEq α] (l : List α) (i j : Nat) (hi : i < l.length) (hj : j < l.length) : (numL l).getD i 0 = (numL l).getD j 0 ↔ l[i] = l[j] := by
  obtain ⟨L, hL⟩ := Qdy l []
  obtain ⟨c, h1, h2⟩ := hL i hi
  obtain ⟨d, h3, h4⟩ := hL j hj
  have e1 : (numL l).getD i 0 = (c : Int) := by rw [K1]; show ((numF l [])[i]?).getD 0 = _; rw [h2]; rfl
  have e2 : (numL l).getD j 0 = (d : Int) := by rw [K1]; show ((numF l [])[j]?).getD 0 = _; rw [h4]; rfl
  rw [e1, e2]
  constructor
  · intro h
    have : c = d := by omega
    subst this
    have a := findIdx?_at h1
    have b := findIdx?_at h3
    rw [a] at b
    exact Option.some.inj b
  · intro h
    have h1' := h1
    rw [h, h3] at h1'
    have := Option.some.inj h1'
    omega
/-- only which keys are alike matters -/
theorem Qdz {α β : Type} [BEq α] [BEq β] (a0 : α) (b0 : β) (l : List α) (m : List β) (hlen : l.length = m.length) (hp : ∀ i j : Nat, i < l.length → j < l.length → (l.getD i a0 == l.getD j a0) = (m.getD i b0 == m.getD j b0)) (d : Nat) : ∀ (i : Nat) (js : List Nat), i + d = l.length → (∀ j ∈ js, j < l.length) →
    numF (l.drop i) (js.map fun j => l.getD j a0) = numF (m.drop i) (js.map fun j => m.getD j b0) := by
  induction d with
  | zero =>
    intro i js hi hj
    rw [Ka (by omega), Ka (by omega)]
    rfl
  | succ d ih =>
    intro i js hi hj
    have h1 : i < l.length := by omega
    have h2 : i < m.length := by omega
    have e1 : l.getD i a0 = l[i] := by simp [K1, h1]
    have e2 : m.getD i b0 = m[i] := by simp [K1, h2]
    rw [K3 h1, K3 h2, numF, numF, ← e1, ← e2]
    have hf : (js.map fun j => l.getD j a0).findIdx? (fun y => l.getD i a0 == y) = (js.map fun j => m.getD j b0).findIdx? (fun y => m.getD i b0 == y) := by
      rw [List.findIdx?_map, List.findIdx?_map]
      have key : ∀ js : List Nat, (∀ j ∈ js, j < l.length) → js.findIdx? ((fun y => l.getD i a0 == y) ∘ fun j => l.getD j a0) = js.findIdx? ((fun y => m.getD i b0 == y) ∘ fun j => m.getD j b0) := by
        intro js
        induction js with
        | nil => intro _; rfl
        | cons j js ih2 =>
          intro hj
          rw [List.findIdx?_cons, List.findIdx?_cons, ih2 fun k hk => hj k (K8 _ hk)]
          have hq : ((fun y => l.getD i a0 == y) ∘ fun j => l.getD j a0) j = ((fun y => m.getD i b0 == y) ∘ fun j => m.getD j b0) j := hp i j h1 (hj j Kp)
          simp only [hq]
      exact key js hj
    rw [hf]
    split
    · rw [ih (i + 1) js (by omega) hj]
    · have := ih (i + 1) (js ++ [i]) (by omega) (fun j hj2 => by
        rcases Kh.1 hj2 with h | h
        · exact hj j h
        · rw [K18] at h; omega)
      rw [List.map_append, List.map_append] at this
      simp only [K14, List.map_nil] at this
      rw [this, Ky, Ky]
theorem Q9p {α β : Type} [BEq α] [BEq β] (a0 : α) (b0 : β) (l : List α) (m : List β) (hlen : l.length = m.length) (hp : ∀ i j : Nat, i < l.length → j < l.length → (l.getD i a0 == l.getD j a0) = (m.getD i b0 == m.getD j b0)) : numL l = numL m := by
  have := Qdz a0 b0 l m hlen hp l.length 0 [] (by omega) (fun j hj => by cases hj)
  rw [Kg, Kg] at this
  exact this
/-! the program numbers with a map -/
def entL (K : List DSaid) : List (DSaid × Int) := K.mapIdx fun i k => (k, (i : Int))
theorem Qbj (K : List DSaid) (x : DSaid) : entL (K ++ [x]) = entL K ++ [(x, (K.length : Int))] := by
  simp [entL, List.mapIdx_append]
theorem Qda (x y : DSaid) : (eqD tySaid x y == some true) = (x == y) := by
  have : eqD tySaid x y = some (((x.1 : Int) == (y.1 : Int)) && ((x.2 : Int) == (y.2 : Int))) := rfl
  rw [this]
  have e : (x == y) = (((x.1 : Int) == (y.1 : Int)) && ((x.2 : Int) == (y.2 : Int))) := rfl
  rw [e]
  cases ((x.1 : Int) == (y.1 : Int)) <;> cases ((x.2 : Int) == (y.2 : Int)) <;> rfl
theorem Q9e (K : List DSaid) (x : DSaid) : J1o tySaid (.int .i64) (entL K) x = K.findIdx? (fun y => x == y) := by
  have e : (fun (e : Den (.pair tySaid (.int .i64))) => eqD tySaid x e.1 == some true) = (fun y => x == y) ∘ Prod.fst := by
    funext e
    exact Qda x e.1
  show List.findIdx? _ (entL K) = _
  rw [e, ← List.findIdx?_map]
  congr 1
  exact List.ext_getElem (by simp [entL]) fun i h1 h2 => by simp [entL]
theorem Qex (K : List DSaid) (x : DSaid) : Jj tySaid (.int .i64) (entL K) x = (K.findIdx? (fun y => x == y)).map Int.ofNat := by
  have hm := Q9e K x
  cases h : K.findIdx? (fun y => x == y) with
  | none =>
    rw [h] at hm
    have e : Jj tySaid (.int .i64) (entL K) x = none := by delta Jj; simp only [hm]
    rw [e]; rfl
  | some i =>
    rw [h] at hm
    have e : Jj tySaid (.int .i64) (entL K) x = some ((entL K).getD i (dflt (.pair tySaid (.int .i64)))).2 := by delta Jj; simp only [hm]; rfl
    rw [e]
    have hlt := findIdx?_lt h
    have this : ∀ z : DSaid × Int, (entL K).getD i z = (K[i], (i : Int)) := fun z => by
      rw [K1, Kb (by simpa [entL] using hlt)]
      simp [entL]
    exact congrArg (fun q : DSaid × Int => some q.2) (this _)
theorem Qfd (K : List DSaid) (x : DSaid) (h : K.findIdx? (fun y => x == y) = none) : J2a tySaid (.int .i64) (entL K) x (K.length : Int) = entL (K ++ [x]) := by
  have hm := Q9e K x
  rw [h] at hm
  have e : J2a tySaid (.int .i64) (entL K) x (K.length : Int) = entL K ++ [(x, (K.length : Int))] := by delta J2a; simp only [hm]; rfl
  rw [e, Qbj]
theorem Q8o (t2 : DSight) (l : Bool × List DSaid) (hl : l.2.length ≤ 100000) (d : Nat) : ∀ (i : Nat) (K : List DSaid) (b : Bool) (o : List Int), i + d = l.2.length → K.length ≤ i → o.length = i →
    ∃ r c, F5l t2 (false, entL K) (b, o) l (l.2.length : Int) (i : Int) = some (r, (c, o ++ numF (l.2.drop i) K)) := by
  have hlim := J7
  induction d with
  | zero =>
    intro i K b o hi hK ho
    exact ⟨(false, entL K), b, by rw [F5lE, gF (by omega), Ka (by omega)]; simp [numF]⟩
  | succ d ih =>
    intro i K b o hi hK ho
    have hlt : i < l.2.length := by omega
    have hel : (entL K).length = K.length := by simp [entL]
    rw [F5lE, gT (by omega), gT (by omega), gT (by omega), J2 l.2 _ i hlt, K3 hlt, numF, up1 i (by omega)]
    simp only [Qex, hel]
    cases h : K.findIdx? (fun y => l.2[i] == y) with
    | none =>
      obtain ⟨r, c, g⟩ := ih (i + 1) (K ++ [l.2[i]]) (b && false) (o ++ [(K.length : Int)]) (by omega) (by simp; omega) (by simp [ho])
      refine ⟨r, c, ?_⟩
      simp only [Option.map_none, Option.isSome_none, Bool.not_false, cond_true]
      rw [gT (by omega), gT (by simp; omega), Qfd K _ h, J1, g]
      simp
    | some k =>
      obtain ⟨r, c, g⟩ := ih (i + 1) K (b && false) (o ++ [(k : Int)]) (by omega) (by omega) (by simp [ho])
      refine ⟨r, c, ?_⟩
      simp only [Option.map_some, Option.isSome_some, K6, cond_false, Option.getD_some]
      rw [gT (by simp; omega), J1]
      have g' : F5l t2 (false, entL K) (b && false, o ++ [Int.ofNat k]) l (l.2.length : Int) ((i + 1 : Nat) : Int) = _ := g
      rw [g']
      simp
theorem Q9q (l : Bool × List DSaid) (hl : l.2.length ≤ 100000) : ∃ c, F1v l = some (c, numL l.2) := by
  obtain ⟨r, c, g⟩ := Q8o (true, []) l hl l.2.length 0 [] true [] (by omega) (by simp) rfl
  have g' : F5l (true, []) (false, []) (true, []) l (l.2.length : Int) 0 = _ := g
  exact ⟨c, by rw [F1vE, g', J0, Kg, Kv]; rfl⟩
/-! the reference looks back -/
theorem Qdk (l : Bool × List Int) (hl : l.2.length ≤ 100000) (t2 : DSight) (b : Bool) (o : List Int) (many : Int) (i : Nat) (hi : i < l.2.length) (ho : o.length = i) (K : List Int) (hK : ∀ j : Nat, j < i → K.findIdx? (fun y => l.2.getD j 0 == y) = some (o.getD j 0).toNat ∧ 0 ≤ o.getD j 0) (hK2 : ∀ y ∈ K, ∃ j : Nat, j < i ∧ l.2.getD j 0 = y) (t9 : Bool × List Int) (t10 t11 : Int) (d : Nat) : ∀ j : Nat, j + d = i → (∀ k : Nat, k < j → l.2.getD k 0 ≠ l.2.getD i 0) →
    F7w l t2 (b, o) many (i : Int) (l.2.getD i 0) many (j : Int) t9 t10 t11 = some (match K.findIdx? (fun y => l.2.getD i 0 == y) with
      | some c => (c : Int)
      | none => many) := by
  induction d with
  | zero =>
    intro j hj hn
    have : K.findIdx? (fun y => l.2.getD i 0 == y) = none := by
      rw [List.findIdx?_eq_none_iff]
      intro y hy
      obtain ⟨k, hk, e⟩ := hK2 y hy
      rw [beq_eq_false_iff_ne, ← e]
      exact fun h => hn k (by omega) h.symm
    rw [F7wE, gF (by omega), this]
  | succ d ih =>
    intro j hj hn
    rw [F7wE, gT (by omega), gT (by omega), gT (by omega), Qk, up1 j (by omega)]
    by_cases e : l.2.getD j 0 = l.2.getD i 0
    · obtain ⟨h1, h2⟩ := hK j (by omega)
      rw [e] at h1
      rw [bT (by rw [beq_iff_eq]; exact e), gT (by omega), gT (by simp only; omega), K7, h1]
      simp only
      rw [Int.toNat_of_nonneg h2]
    · rw [bF (beqF e), J1]
      exact ih (j + 1) (by omega) (fun k hk => by
        by_cases h : k = j
        · subst h; exact e
        · exact hn k (by omega))
theorem Qdj (l : Bool × List Int) (hl : l.2.length ≤ 100000) (t2 : DSight) (d : Nat) : ∀ (i : Nat) (K : List Int) (b : Bool) (o : List Int), i + d = l.2.length → K.length ≤ i → o.length = i → (∀ j : Nat, j < i → K.findIdx? (fun y => l.2.getD j 0 == y) = some (o.getD j 0).toNat ∧ 0 ≤ o.getD j 0) → (∀ y ∈ K, ∃ j : Nat, j < i ∧ l.2.getD j 0 = y) →
    ∃ c, F71 l t2 (b, o) (K.length : Int) l (l.2.length : Int) (i : Int) = some (c, o ++ numF (l.2.drop i) K) := by
  have hlim := J7
  induction d with
  | zero =>
    intro i K b o hi hKl ho hK hK2
    exact ⟨b, by rw [F71E, gF (by omega), Ka (by omega)]; simp [numF]⟩
  | succ d ih =>
    intro i K b o hi hKl ho hK hK2
    have hlt : i < l.2.length := by omega
    have e2 := Qdk l hl t2 b o (K.length : Int) i hlt ho K hK hK2 l (l.2.length : Int) (i : Int) i 0 (by omega) (fun k hk => by omega)
    have e2' : F7w l t2 (b, o) (K.length : Int) (i : Int) (l.2.getD i 0) (K.length : Int) 0 l (l.2.length : Int) (i : Int) = _ := e2
    have eg : l.2.getD i 0 = l.2[i] := by simp [K1, hlt]
    have hog : ∀ (z : Int) (j : Nat), j < i → (o ++ [z]).getD j 0 = o.getD j 0 := fun z j hj => by rw [K1, Kl (by omega), K1]
    have hoi : ∀ z : Int, (o ++ [z]).getD i 0 = z := fun z => by rw [K1, ← ho, List.getElem?_concat_length]; rfl
    rw [F71E, gT (by omega), gT (by omega), gT (by omega), Qk, e2', J0, K3 hlt, numF, up1 i (by omega), ← eg]
    cases h : K.findIdx? (fun y => l.2.getD i 0 == y) with
    | some k =>
      have hk := findIdx?_lt h
      obtain ⟨c, g⟩ := ih (i + 1) K (b && false) (o ++ [(k : Int)]) (by omega) (by omega) (by simp [ho]) (fun j hj => by
        by_cases ej : j = i
        · subst ej
          rw [hoi, h]
          exact ⟨rfl, by omega⟩
        · rw [hog _ j (by omega)]
          exact hK j (by omega)) (fun y hy => by obtain ⟨j, h1, h2⟩ := hK2 y hy; exact ⟨j, by omega, h2⟩)
      refine ⟨c, ?_⟩
      simp only
      rw [bF (beqF (by omega)), gT (by simp; omega), J1, g]
      simp
    | none =>
      obtain ⟨c, g⟩ := ih (i + 1) (K ++ [l.2.getD i 0]) (b && false) (o ++ [(K.length : Int)]) (by omega) (by simp; omega) (by simp [ho]) (fun j hj => by
        by_cases ej : j = i
        · subst ej
          rw [hoi, findIdx?_new h (by simp)]
          exact ⟨by simp, by omega⟩
        · rw [hog _ j (by omega)]
          obtain ⟨h1, h2⟩ := hK j (by omega)
          exact ⟨findIdx?_more h1, h2⟩) (fun y hy => by
        rcases Kh.1 hy with hy | hy
        · obtain ⟨j, h1, h2⟩ := hK2 y hy
          exact ⟨j, by omega, h2⟩
        · rw [K18] at hy
          exact ⟨i, by omega, hy.symm⟩)
      refine ⟨c, ?_⟩
      simp only
      have e3 : IntKind.i64.wrap ((K.length : Int) + 1) = ((K ++ [l.2.getD i 0]).length : Int) := by rw [wr (by omega)]; simp
      rw [bT (by simp), gT (by simp; omega), e3, J1, g]
      simp
theorem Qfw (l : Bool × List Int) (hl : l.2.length ≤ 100000) : ∃ c, Fw l = some (c, numL l.2) := by
  obtain ⟨c, g⟩ := Qdj l hl (true, []) l.2.length 0 [] true [] (by omega) (by simp) rfl (fun j hj => by omega) (fun y hy => by cases hy)
  have g' : F71 l (true, []) (true, []) 0 l (l.2.length : Int) 0 = _ := g
  exact ⟨c, by rw [FwE, g', J0, Kg, Kv]; rfl⟩
/-- what tells states Q31: their class, and whether they are in a list -/
def Q3q (v some_ : List Int) : List DSaid := v.mapIdx fun i k => (k, if (i : Int) ∈ some_ then (1 : Int) else 0)
def cutL (v some_ : List Int) : List Int := numL (Q3q v some_)
def keyS (v some_ : List Int) : List Int := v.mapIdx fun i k => 2 * k + (if (i : Int) ∈ some_ then 1 else 0)
def zipL (a b : List Int) : List DSaid := a.mapIdx fun i k => (k, b.getD i 0)
theorem Q49 (v s : List Int) : (Q3q v s).length = v.length := by simp [Q3q]
theorem Q85 (v s : List Int) : (cutL v s).length = v.length := by rw [cutL, numL, Q35, Q49]
theorem Qcg (v s : List Int) : numL (keyS v s) = cutL v s := by
  refine Q9p 0 (0, 0) (keyS v s) (Q3q v s) (by simp [keyS, Q3q]) fun i j hi hj => ?_
  have hi' : i < v.length := by simpa [keyS] using hi
  have hj' : j < v.length := by simpa [keyS] using hj
  have e1 : ∀ k : Nat, k < v.length → (keyS v s).getD k 0 = 2 * v.getD k 0 + (if (k : Int) ∈ s then 1 else 0) := fun k hk => by
    simp [keyS, K1, hk]
  have e2 : ∀ k : Nat, k < v.length → (Q3q v s).getD k (0, 0) = (v.getD k 0, if (k : Int) ∈ s then 1 else 0) := fun k hk => by
    simp [Q3q, K1, hk]
  rw [e1 i hi', e1 j hj', e2 i hi', e2 j hj', Bool.eq_iff_iff, beq_iff_eq, beq_iff_eq, K2]
  split <;> split <;> omega
theorem Qbt (s : Bool × List Int) (hs : s.2.length ≤ 1048576) (t4 : DSight) (v : DSight) (hv : v.2.length ≤ 100000) (hin : ∀ x ∈ v.2, 0 ≤ x ∧ x ≤ 1000) (d : Nat) : ∀ (i : Nat) (b : Bool) (o : List Int), i + d = v.2.length → o = (keyS v.2 s.2).take i →
    ∃ c, F75 s t4 (b, o) v (v.2.length : Int) (i : Int) = some (c, keyS v.2 s.2) := by
  have hlim := J7
  have hkl : (keyS v.2 s.2).length = v.2.length := by simp [keyS]
  induction d with
  | zero =>
    intro i b o hi ho
    exact ⟨b, by rw [F75E, gF (by omega), ho, K1i (by omega)]⟩
  | succ d ih =>
    intro i b o hi ho
    have hlt : i < v.2.length := by omega
    have hx := hin _ (K4 hlt)
    have hol : o.length = i := by rw [ho, K1s]; omega
    have hk : (keyS v.2 s.2)[i]'(by omega) = 2 * v.2[i] + (if (i : Int) ∈ s.2 then 1 else 0) := by simp [keyS]
    have hnext : o ++ [2 * v.2[i] + (if (i : Int) ∈ s.2 then 1 else 0)] = (keyS v.2 s.2).take (i + 1) := by
      rw [K1c (by omega), hk, ho]
    obtain ⟨c, g⟩ := ih (i + 1) (b && false) _ (by omega) hnext
    refine ⟨c, ?_⟩
    rw [F75E, gT (by omega), gT (by omega), gT (by omega), J2 v.2 _ i hlt, Qaj s _ hs, J0, wr (n := 2 * v.2[i]) (by omega), wr (by omega), up1 i (by omega)]
    by_cases hm : (i : Int) ∈ s.2
    · have : (s.2.any fun x => x == (i : Int)) = true := by rw [Q8d]; exact hm
      rw [if_pos hm] at g
      rw [this, cond_true, gT (by simp; omega), J1, g]
    · have : (s.2.any fun x => x == (i : Int)) = false := by rw [← Bool.not_eq_true, Q8d]; exact hm
      rw [if_neg hm, Int.add_zero] at g
      rw [this, cond_false, gT (by simp; omega), J1, g]
theorem Qeh (v : DSight) (hv : v.2.length ≤ 100000) (hin : ∀ x ∈ v.2, 0 ≤ x ∧ x ≤ 1000) (s : Bool × List Int) (hs : s.2.length ≤ 1048576) : ∃ c, F1r v s = some (c, cutL v.2 s.2) := by
  obtain ⟨c, g⟩ := Qbt s hs (true, []) v hv hin v.2.length 0 true [] (by omega) rfl
  have g' : F75 s (true, []) (true, []) v (v.2.length : Int) 0 = _ := g
  obtain ⟨c2, g2⟩ := Qfw (c, keyS v.2 s.2) (by simp [keyS]; omega)
  refine ⟨c2, ?_⟩
  rw [F1rE, g', J0]
  simp only [g2, J0, Qcg]
theorem Qc8 (a b : DSight) (hb : a.2.length ≤ b.2.length) (ha : a.2.length ≤ 100000) (t4 : DSight) (d : Nat) : ∀ (i : Nat) (f : Bool) (o : List DSaid), i + d = a.2.length → o = (zipL a.2 b.2).take i →
    ∃ c, F85 b t4 (f, o) a (a.2.length : Int) (i : Int) = some (c, zipL a.2 b.2) := by
  have hlim := J7
  have hkl : (zipL a.2 b.2).length = a.2.length := by simp [zipL]
  induction d with
  | zero =>
    intro i f o hi ho
    exact ⟨f, by rw [F85E, gF (by omega), ho, K1i (by omega)]⟩
  | succ d ih =>
    intro i f o hi ho
    have hlt : i < a.2.length := by omega
    have hol : o.length = i := by rw [ho, K1s]; omega
    have hk : (zipL a.2 b.2)[i]'(by omega) = (a.2[i], b.2.getD i 0) := by simp [zipL]
    have hnext : o ++ [(a.2[i], b.2.getD i 0)] = (zipL a.2 b.2).take (i + 1) := by
      rw [K1c (by omega), hk, ho]
    obtain ⟨c, g⟩ := ih (i + 1) (f && false) _ (by omega) hnext
    refine ⟨c, ?_⟩
    rw [F85E, gT (by omega), gT (by omega), gT (by omega), gT (by omega), gT (by omega), J2 a.2 _ i hlt, Qk, gT (by simp; omega), up1 i (by omega), J1, g]
theorem Qel (a b : DSight) (hb : a.2.length ≤ b.2.length) (ha : a.2.length ≤ 100000) : ∃ c, F22 a b = some (c, numL (zipL a.2 b.2)) := by
  obtain ⟨c, g⟩ := Qc8 a b hb ha (true, []) a.2.length 0 false [] (by omega) rfl
  have g' : F85 b (true, []) (false, []) a (a.2.length : Int) 0 = _ := g
  obtain ⟨c2, g2⟩ := Q9q (c, zipL a.2 b.2) (by simp [zipL]; omega)
  refine ⟨c2, ?_⟩
  rw [F22E, g', J0]
  simp only [g2, J0]
theorem Qbc (v t4 : DSight) (s : Bool × List Int) (hs : s.2.length ≤ 1048576) (n : Nat) (hin : ∀ x ∈ s.2, 0 ≤ x ∧ x < (n : Int)) (d : Nat) : ∀ (i : Nat) (a : List Int), i + d = s.2.length → a.length = n →
    ∃ a', F7n v t4 (false, a) s (s.2.length : Int) (i : Int) = some (false, a') ∧ a'.length = n ∧ ∀ k : Nat, k < n → a'.getD k 0 = if (k : Int) ∈ s.2.drop i then 1 else a.getD k 0 := by
  induction d with
  | zero =>
    intro i a hi ha
    refine ⟨a, by rw [F7nE, gF (by omega)], ha, fun k hk => ?_⟩
    rw [Ka (by omega), if_neg (by simp)]
  | succ d ih =>
    intro i a hi ha
    have hlt : i < s.2.length := by omega
    have hx := hin _ (K4 hlt)
    obtain ⟨m, hm⟩ := Kf hx.1
    obtain ⟨a', g1, g2, g3⟩ := ih (i + 1) (a.set m 1) (by omega) (by rw [Ku]; exact ha)
    refine ⟨a', ?_, g2, fun k hk => ?_⟩
    · rw [F7nE]
      simp only [gT (show (i : Int) < (s.2.length : Int) by omega), gT (show (0 : Int) ≤ (i : Int) by omega), J2 s.2 _ i hlt, hm, gT (show (0 : Int) ≤ (m : Int) by omega), gT (show (m : Int) < (a.length : Int) by omega), K7, up1 i (by omega), J1]
      have eg : s.2.getD i 0 = (m : Int) := by rw [← hm]; simp [K1, hlt]
      simp only [eg, K7, gT (show (0 : Int) ≤ (m : Int) by omega), gT (show (m : Int) < (a.length : Int) by omega), g1]
    · rw [g3 k hk, K3 hlt]
      by_cases hkm : k = m
      · subst hkm
        have : (a.set k 1).getD k 0 = 1 := by simp [K1, ha, hk]
        rw [this, if_pos (Kd.2 (.inl hm.symm))]
        split <;> rfl
      · have e1 : (a.set m 1).getD k 0 = a.getD k 0 := by rw [K1, List.getElem?_set_ne (by omega), K1]
        rw [e1]
        by_cases hk2 : (k : Int) ∈ s.2.drop (i + 1)
        · rw [if_pos hk2, if_pos (K8 _ hk2)]
        · rw [if_neg hk2, if_neg (fun h => by
            rcases Kd.1 h with h | h
            · rw [hm] at h; omega
            · exact hk2 h)]
theorem Qfm (v : DSight) (hv : v.2.length ≤ 100000) (s : Bool × List Int) (hs : s.2.length ≤ 1048576) (hin : ∀ x ∈ s.2, 0 ≤ x ∧ x < (v.2.length : Int)) : ∃ c, F3b v s = some (c, cutL v.2 s.2) := by
  have hlim := J7
  obtain ⟨a, g1, g2, g3⟩ := Qbc v (true, []) s hs v.2.length hin s.2.length 0 (List.replicate v.2.length 0) (by omega) (by simp)
  have g1' : F7n v (true, []) (false, List.replicate v.2.length 0) s (s.2.length : Int) 0 = _ := g1
  obtain ⟨c, e⟩ := Qel v (false, a) (by simp only; omega) hv
  have hz : zipL v.2 a = Q3q v.2 s.2 := List.ext_getElem (by simp [zipL, Q3q]) fun i h1 h2 => by
    have hi : i < v.2.length := by simpa [zipL] using h1
    have := g3 i hi
    rw [Kg] at this
    simp only [zipL, Q3q, List.getElem_mapIdx, this]
    have e0 : (List.replicate v.2.length (0 : Int)).getD i 0 = 0 := by simp [K1, hi]
    rw [e0]
  refine ⟨c, ?_⟩
  rw [F3bE, gT (by omega), gT (by omega), gT (by omega), gT (by omega), K7, g1', J0]
  simp only [e, J0, hz, cutL]
theorem Qcf {α : Type} [BEq α] {p : DProgram} {v : List Int} (h : Q7 p v = true) (l : List α) (hl : l.length = v.length) : Q7 p (numL l) = true := by
  obtain ⟨_, h2, _⟩ := Q1i h
  simp only [Q7, K5, decide_eq_true_eq] at h ⊢
  refine ⟨h.1, ?_, Qap l []⟩
  rw [numL, Q35, hl]
  exact h.2.1
theorem Q70 {p : DProgram} {v : List Int} (h : Q7 p v = true) (s : List Int) : Q7 p (cutL v s) = true := Qcf h _ (Q49 v s)
theorem Q9c {p : DProgram} {v : DSight} (h : Sees p v.2) (f g : Bool) (s : List Int) (hs : InS p s) : ∃ a b, F1r v (f, s) = some (a, cutL v.2 s) ∧ F3b v (g, s) = some (b, cutL v.2 s) ∧ (cutL v.2 s).length ≤ 1048576 := by
  have hm := h.manyV
  have hms := Q6 h.ok.sml
  have hl := hs.1
  obtain ⟨a, e1⟩ := Qeh v (by omega) (fun x hx => by have := h.inn x hx; omega) (f, s) (by simp only; omega)
  obtain ⟨b, e2⟩ := Qfm v (by omega) (g, s) (by simp only; omega) (fun x hx => by have := hs.2 x hx; have := h.len; simp only at *; omega)
  exact ⟨a, b, e1, e2, by rw [Q85]; omega⟩
/-- a view, split by a condition -/
noncomputable def Q3s (p : DProgram) (v : List Int) (t : List DNode) : List Int := cutL v (Q3 p t 0 (Q0 p))
theorem Q1t {p : DProgram} {v : List Int} (h : Q7 p v = true) (t : List DNode) : Q7 p (Q3s p v t) = true := Q70 h _
theorem Q6i {p : DProgram} {v : List Int} (h : Sees p v) (f : Bool) (t : Bool × List DNode) (ht : WfN t.2) (hk : (Q1 p.1 p.2.1 t.2 == 2) = true) : ∃ c, F4j p (f, v) t = some (c, Q3s p v t.2) := by
  have hm := h.manyV
  have hl := Qg p t.2 0 (Q0 p)
  have hms := Q6 h.ok.sml
  obtain ⟨b, e1⟩ := Q42 h.ok.sml t ht (Q6h hk)
  obtain ⟨c, e2⟩ := Qeh (f, v) (by simp only; omega) (fun x hx => by have := h.inn x hx; omega) (b, Q3 p t.2 0 (Q0 p)) (by simp only; omega)
  refine ⟨c, ?_⟩
  rw [F4jE, e1, J0]
  simp only [e2, J0]
  rfl
noncomputable def bitK (p : DProgram) (t : List DNode) (i : Nat) : DSaid := (if Qc p t (i : Int) = true then 1 else 0, 0)
theorem Qfh {p : DProgram} (h : Ok p) (t : Bool × List DNode) (ht : WfN t.2) (hk : (Q1 p.1 p.2.1 t.2 == 2) = true) (i : Nat) :
    Fm p.1 t (false, Qb p (i : Int)) = some (if Qc p t.2 (i : Int) = true then 1 else 0) := by
  have h1 := h.sml.w1
  have h2 := h.sml.w2
  have h3 := h.sml.v2
  have hl := Q19 h.sml (i : Int)
  obtain ⟨k1, k2, _, k4⟩ := Q23 p.1 (by omega) (false, Qb p (i : Int)) (by simp only; omega) (Q1k h.sml (i : Int)) t ht (by rw [show (((false, Qb p (i : Int)) : Bool × List Int).2.length : Int) = p.2.1 from hl]; exact Q6h hk)
  have k2' := k2 (by rw [show (((false, Qb p (i : Int)) : Bool × List Int).2.length : Int) = p.2.1 from hl]; exact eq_of_beq hk)
  have k1' := k1.1
  rw [k4]
  congr 1
  unfold Qc Q4v
  by_cases c : valT p.1 (Qb p (i : Int)) t.2 = 1
  · rw [if_pos (by rw [beq_iff_eq]; exact c)]
    exact c
  · rw [if_neg (by rw [beq_iff_eq]; exact c)]
    show valT p.1 (Qb p (i : Int)) t.2 = 0
    have a : 0 ≤ valT p.1 (Qb p (i : Int)) t.2 := k1'
    have b : valT p.1 (Qb p (i : Int)) t.2 ≤ 1 := k2'
    omega
theorem Q9z {p : DProgram} (h : Ok p) (f : Bool) (t : Bool × List DNode) (ht : WfN t.2) (hk : (Q1 p.1 p.2.1 t.2 == 2) = true) (t4 : DSight) (K : List DSaid) (i : Nat) (hi : i < K.length) (h0 : K.getD i (0, 0) = (0, 0)) (t25 t26 : Int) :
    F89 (f, [t]) p t4 (false, K) (i : Int) (false, Qb p (i : Int)) t25 t26 (f, [t]) 1 0 = some (false, K.set i (bitK p t.2 i)) := by
  have hv := Qfh h t ht hk i
  have hend : ∀ K' : List DSaid, F89 (f, [t]) p t4 (false, K') (i : Int) (false, Qb p (i : Int)) t25 t26 (f, [t]) 1 1 = some (false, K') := fun K' => by
    rw [F89E, gF (by omega)]
  have hbit : ∀ z : Int, z = 0 ∨ z = 1 → bOr .i64 0 (bShl .i64 (IntKind.i64.wrap z) 0) = z := fun z hz => by
    rcases hz with rfl | rfl <;> decide
  have hz : (if Qc p t.2 (i : Int) = true then (1 : Int) else 0) = 0 ∨ (if Qc p t.2 (i : Int) = true then (1 : Int) else 0) = 1 := by
    split
    · exact .inr rfl
    · exact .inl rfl
  have eg : ([t] : List (Bool × List DNode)).getD (Int.toNat 0) (true, []) = t := rfl
  rw [F89E]
  simp only [gT (show (0 : Int) < 1 by omega), gT (show (0 : Int) ≤ 0 by omega), K1z, eg, gT (show (0 : Int) ≤ (i : Int) by omega), gT (show (i : Int) < (K.length : Int) by omega), hv, J0, gF (show ¬ (0 : Int) < 0 by omega), K7, h0, hbit _ hz, wr (n := (0 : Int) + 1) (by omega), show (0 : Int) + 1 = 1 by omega, Int.natCast_one]
  rw [show IntKind.i64.wrap 1 = 1 from wr (by omega), hend]
  rfl
theorem Q9y {p : DProgram} (h : Ok p) (f : Bool) (t : Bool × List DNode) (ht : WfN t.2) (hk : (Q1 p.1 p.2.1 t.2 == 2) = true) (t4 : DSight) (n : Nat) (hn : n = Q0 p) (d : Nat) : ∀ (i : Nat) (K : List DSaid), i + d = n → K = (List.range i).map (bitK p t.2) ++ List.replicate d (0, 0) →
    F82 (f, [t]) p t4 (false, K) (n : Int) (i : Int) = some (false, (List.range n).map (bitK p t.2)) := by
  have hms := Q6 h.sml
  induction d with
  | zero =>
    intro i K hi hK
    obtain rfl : i = n := by omega
    rw [F82E, gF (by omega), hK]
    simp
  | succ d ih =>
    intro i K hi hK
    have hKl : K.length = n := by rw [hK]; simp; omega
    have h0 : K.getD i (0, 0) = (0, 0) := by
      rw [hK, K1, Km (by simp)]
      simp [List.getElem?_replicate]
    have e2 := Q9z h f t ht hk t4 K i (by omega) h0 (n : Int) (i : Int)
    have hset : K.set i (bitK p t.2 i) = (List.range (i + 1)).map (bitK p t.2) ++ List.replicate d (0, 0) := by
      rw [hK, List.range_succ, List.map_append, List.set_append_right _ _ (by simp)]
      simp [List.replicate_succ]
    rw [F82E, gT (by omega), Q52 h.sml _ (by omega), J0]
    simp only [K1z, Int.natCast_one, e2, J0, up1 i (by omega), J1]
    rw [hset]
    exact ih (i + 1) _ (by omega) rfl
theorem Qeq {p : DProgram} (h : Ok p) (hs : Qp p = true) (f : Bool) (t : Bool × List DNode) (ht : WfN t.2) (hk : (Q1 p.1 p.2.1 t.2 == 2) = true) : ∃ c, F1c p (f, [t]) = some ((c, numL ((List.range (Q0 p)).map (bitK p t.2))), true) := by
  have hlim := J7
  have hms := Q6 h.sml
  have e0 : (Q1l p [t.2]) = true := by
    simp only [Q1l, K1z, List.all_cons, List.all_nil, hk, Bool.and_true]
    rfl
  have e1 := Q9y h f t ht hk (true, []) (Q0 p) rfl (Q0 p) 0 (List.replicate (Q0 p) (0, 0)) (by omega) (by simp)
  have e1' : F82 (f, [t]) p (true, []) (false, List.replicate (Q0 p) (0, 0)) (Q0 p : Int) 0 = _ := e1
  obtain ⟨c, e2⟩ := Q9q (false, (List.range (Q0 p)).map (bitK p t.2)) (by simp; omega)
  refine ⟨c, ?_⟩
  rw [F1cE, Q45 p h.sm, J0, hs, K6, cond_false, Q98, J0]
  simp only [K1z, K14, List.map_nil, e0]
  rw [show (decide (((1 : Nat) : Int) ≥ 0) && true) = true from rfl, K6, cond_false, Q13 h.sml, J0, gT (by omega), gT (by omega), gT (by omega), gT (by omega), K7]
  simp only [List.length_replicate, e1', J0, e2]
theorem Qb4 {p : DProgram} {v : List Int} (hg : Q7 p v = true) (h : Sees p v) (hs : Qp p = true) (f : Bool) (t : Bool × List DNode) (ht : WfN t.2) (hk : (Q1 p.1 p.2.1 t.2 == 2) = true) : ∃ c, F4s p (f, v) t = some ((c, Q3s p v t.2), true) := by
  have hm := h.manyV
  obtain ⟨c1, e1⟩ := Qeq h.ok hs false t ht hk
  have e2 := Q5j p h.ok.sm (f, v) (by simp only; omega)
  have hlen : (numL ((List.range (Q0 p)).map (bitK p t.2))).length = v.length := by rw [numL, Q35, h.len]; simp
  obtain ⟨c2, e3⟩ := Qel (f, v) (c1, numL ((List.range (Q0 p)).map (bitK p t.2))) (by simp only; omega) (by simp only; omega)
  refine ⟨c2, ?_⟩
  have hsame : numL (zipL v (numL ((List.range (Q0 p)).map (bitK p t.2)))) = Q3s p v t.2 := by
    refine Q9p (0, 0) (0, 0) _ (Q3q v (Q3 p t.2 0 (Q0 p))) (by simp [zipL, Q3q]) fun i j hi hj => ?_
    have hi' : i < v.length := by simpa [zipL] using hi
    have hj' : j < v.length := by simpa [zipL] using hj
    have hlv := h.len
    have a1 : ∀ k : Nat, k < v.length → (zipL v (numL ((List.range (Q0 p)).map (bitK p t.2)))).getD k (0, 0) = (v.getD k 0, (numL ((List.range (Q0 p)).map (bitK p t.2))).getD k 0) := fun k hk => by
      simp [zipL, K1, hk]
    have a2 : ∀ k : Nat, k < v.length → (Q3q v (Q3 p t.2 0 (Q0 p))).getD k (0, 0) = (v.getD k 0, if Qc p t.2 (k : Int) = true then 1 else 0) := fun k hk => by
      have : ((k : Int) ∈ Q3 p t.2 0 (Q0 p)) = (Qc p t.2 (k : Int) = true) := propext ⟨fun h => (Ql.1 h).2, fun h => Ql.2 ⟨⟨by omega, by omega⟩, h⟩⟩
      simp only [Q3q, K1, List.getElem?_mapIdx, Kb hk, Option.map_some, Option.getD_some, this]
    have a3 := Qf4 ((List.range (Q0 p)).map (bitK p t.2)) i j (by simp; omega) (by simp; omega)
    simp only [List.getElem_map, List.getElem_range] at a3
    rw [a1 i hi', a1 j hj', a2 i hi', a2 j hj', Bool.eq_iff_iff, beq_iff_eq, beq_iff_eq, K2, K2, a3]
    simp only [bitK, K2, and_true]
  rw [F4sE, e1, J0]
  simp only [K6, cond_false, e2, J0, hg, e3, hsame]
/-- a view, split by conditions one after the other -/
noncomputable def Q1u (p : DProgram) (v : List Int) (l : List (Bool × List DNode)) : List Int := l.foldl (fun v t => Q3s p v t.2) v
theorem Q7q {p : DProgram} (l : List (Bool × List DNode)) : ∀ v : List Int, Q7 p v = true → Q7 p (Q1u p v l) = true := by
  induction l with
  | nil => intro v h; exact h
  | cons t l ih => intro v h; exact ih _ (Q1t h t.2)
theorem Qdh {p : DProgram} (h : Ok p) (t4 : DSight) (l : Bool × List (Bool × List DNode)) (hl : l.2.length ≤ 1048576) (ht : ∀ t ∈ l.2, WfN t.2 ∧ (Q1 p.1 p.2.1 t.2 == 2) = true) (d : Nat) : ∀ (i : Nat) (f : Bool) (v : List Int), i + d = l.2.length → Q7 p v = true →
    ∃ c, Fad p t4 (f, v) l (l.2.length : Int) (i : Int) = some (c, Q1u p v (l.2.drop i)) := by
  induction d with
  | zero =>
    intro i f v hi hv
    exact ⟨f, by rw [FadE, gF (by omega), Ka (by omega)]; rfl⟩
  | succ d ih =>
    intro i f v hi hv
    have hlt : i < l.2.length := by omega
    obtain ⟨q1, q2⟩ := ht _ (K4 hlt)
    obtain ⟨c1, e1⟩ := Q6i (Q3x hv h.sm h.wf) f l.2[i] q1 q2
    obtain ⟨c, g⟩ := ih (i + 1) c1 _ (by omega) (Q1t hv l.2[i].2)
    refine ⟨c, ?_⟩
    rw [FadE, gT (by omega), gT (by omega), gT (by omega), J2 l.2 _ i hlt, up1 i (by omega), K3 hlt]
    simp only [e1, J0, J1, g]
    rfl
theorem Qau {p : DProgram} (h : Ok p) (hs : Qp p = true) (t4 : DSight) (l : Bool × List (Bool × List DNode)) (hl : l.2.length ≤ 1048576) (ht : ∀ t ∈ l.2, WfN t.2 ∧ (Q1 p.1 p.2.1 t.2 == 2) = true) (d : Nat) : ∀ (i : Nat) (f : Bool) (v : List Int), i + d = l.2.length → Q7 p v = true →
    ∃ c, F7k p t4 (f, v) l (l.2.length : Int) (i : Int) = some (c, Q1u p v (l.2.drop i)) := by
  induction d with
  | zero =>
    intro i f v hi hv
    exact ⟨f, by rw [F7kE, gF (by omega), Ka (by omega)]; rfl⟩
  | succ d ih =>
    intro i f v hi hv
    have hlt : i < l.2.length := by omega
    obtain ⟨q1, q2⟩ := ht _ (K4 hlt)
    obtain ⟨c1, e1⟩ := Qb4 hv (Q3x hv h.sm h.wf) hs f l.2[i] q1 q2
    obtain ⟨c, g⟩ := ih (i + 1) c1 _ (by omega) (Q1t hv l.2[i].2)
    refine ⟨c, ?_⟩
    rw [F7kE, gT (by omega), gT (by omega), gT (by omega), J2 l.2 _ i hlt, up1 i (by omega), K3 hlt]
    simp only [e1, J0, J1, g]
    rfl
/-- one class alone -/
def Q24 (p : DProgram) : List Int := List.replicate (Q0 p) 0
theorem Q8u (n : Nat) : Q20 1 (List.replicate n 0) = true := by
  induction n with
  | zero => rfl
  | succ n ih => rw [List.replicate_succ, Q20, decide_eq_true (by omega), K17, if_neg (by omega)]; exact ih
theorem Q3a {p : DProgram} (hs : Qp p = true) : Q7 p (Q24 p) = true := by
  have hms := Q6 (Q94 hs)
  simp only [Q7, K5, decide_eq_true_eq]
  refine ⟨hs, by simp [Q24], ?_⟩
  obtain ⟨n, hn⟩ : ∃ n, Q0 p = n + 1 := ⟨Q0 p - 1, by omega⟩
  rw [Q24, hn, List.replicate_succ, Q20, decide_eq_true (by omega), K17, if_pos rfl]
  exact Q8u n
theorem Qfv {p : DProgram} (h : Ok p) (hs : Qp p = true) (l : Bool × List (Bool × List DNode)) (hl : l.2.length ≤ 1048576) (ht : ∀ t ∈ l.2, WfN t.2 ∧ (Q1 p.1 p.2.1 t.2 == 2) = true) : ∃ c, F32 p l = some (c, Q1u p (Q24 p) l.2) := by
  have hlim := J7
  have hms := Q6 h.sml
  obtain ⟨c, g⟩ := Qdh h (true, []) l hl ht l.2.length 0 false (Q24 p) (by omega) (Q3a hs)
  have g' : Fad p (true, []) (false, List.replicate (Q0 p) 0) l (l.2.length : Int) 0 = _ := g
  refine ⟨c, ?_⟩
  rw [F32E, Qc2 h.sml, J0, gT (by omega), gT (by omega), gT (by omega), gT (by omega), K7, g', J0, Kg]
theorem Qfe {p : DProgram} (h : Ok p) (hs : Qp p = true) (l : Bool × List (Bool × List DNode)) (hl : l.2.length ≤ 1048576) (ht : ∀ t ∈ l.2, WfN t.2 ∧ (Q1 p.1 p.2.1 t.2 == 2) = true) : ∃ c, F3q p l = some (c, Q1u p (Q24 p) l.2) := by
  have hlim := J7
  have hms := Q6 h.sml
  obtain ⟨c, g⟩ := Qau h hs (true, []) l hl ht l.2.length 0 false (Q24 p) (by omega) (Q3a hs)
  have g' : F7k p (true, []) (false, List.replicate (Q0 p) 0) l (l.2.length : Int) 0 = _ := g
  refine ⟨c, ?_⟩
  rw [F3qE, Q13 h.sml, J0, gT (by omega), gT (by omega), gT (by omega), gT (by omega), K7, g', J0, Kg]
theorem Q96 {p : DProgram} (hm : Q0 p ≤ 32) (t : List DNode) (l : List Int) (hin : ∀ x ∈ l, 0 ≤ x ∧ x < (Q0 p : Int)) :
    (l.all fun x => (Q3 p t 0 (Q0 p)).any fun y => y == x) = l.all (Qc p t) ∧ (l.any fun x => (Q3 p t 0 (Q0 p)).any fun y => y == x) = l.any (Qc p t) := by
  have key : ∀ x ∈ l, ((Q3 p t 0 (Q0 p)).any fun y => y == x) = Qc p t x := by
    intro x hx
    rw [Bool.eq_iff_iff, K11]
    constructor
    · rintro ⟨u, hu, e⟩
      rw [beq_iff_eq] at e
      subst e
      exact (Ql.1 hu).2
    · exact fun h => ⟨x, Ql.2 ⟨hin x hx, h⟩, by simp⟩
  constructor
  · rw [Bool.eq_iff_iff, K10, K10]
    exact ⟨fun h x hx => by rw [← key x hx]; exact h x hx, fun h x hx => by rw [key x hx]; exact h x hx⟩
  · rw [Bool.eq_iff_iff, K11, K11]
    exact ⟨fun ⟨x, hx, h⟩ => ⟨x, hx, by rw [← key x hx]; exact h⟩, fun ⟨x, hx, h⟩ => ⟨x, hx, by rw [key x hx]; exact h⟩⟩
/-- Does a condition hold on all of the one and on none of the other, or the other way round? -/
noncomputable def Q31 (p : DProgram) (t : List DNode) (a b : List Int) : Bool := (a.all (Qc p t) && !b.any (Qc p t)) || (!a.any (Qc p t) && b.all (Qc p t))
theorem Qdp {p : DProgram} (hp : Sml p) (t : Bool × List DNode) (hx : WfN t.2) (hk : Q1 p.1 p.2.1 t.2 ≠ 0) (a b : Bool × List Int) (ha : a.2.length ≤ 1048576) (hb : b.2.length ≤ 1048576) (hai : ∀ x ∈ a.2, 0 ≤ x ∧ x < (Q0 p : Int)) (hbi : ∀ x ∈ b.2, 0 ≤ x ∧ x < (Q0 p : Int)) :
    F6f p t a b = some (Q31 p t.2 a.2 b.2) := by
  have hm := Q6 hp
  obtain ⟨y, e⟩ := Q42 hp t hx hk
  have ll := Qg p t.2 0 (Q0 p)
  obtain ⟨a1, a2⟩ := Q96 (by omega) t.2 a.2 hai
  obtain ⟨b1, b2⟩ := Q96 (by omega) t.2 b.2 hbi
  rw [F6fE, e, J0, Q7c _ _ ha (by simp only; omega), Qc3 _ _ hb (by simp only; omega), Qc3 _ _ ha (by simp only; omega), Q7c _ _ hb (by simp only; omega)]
  simp only [J0, a1, a2, b1, b2]
  unfold Q31
  cases a.2.all (Qc p t.2) <;> cases b.2.any (Qc p t.2) <;> cases a.2.any (Qc p t.2) <;> rfl
theorem Qcm {p : DProgram} (hp : Sml p) (t : Bool × List DNode) (hx : WfN t.2) (hk : Q1 p.1 p.2.1 t.2 = 2) (a b : Bool × List Int) (ha : a.2.length ≤ 1048576) (hb : b.2.length ≤ 1048576) (hai : ∀ x ∈ a.2, 0 ≤ x ∧ x < 1000) (hbi : ∀ x ∈ b.2, 0 ≤ x ∧ x < 1000) :
    F6g p t a b = some (Q31 p t.2 a.2 b.2) := by
  have hk0 : Q1 p.1 p.2.1 t.2 ≠ 0 := by omega
  obtain ⟨_, _, _, _, hl1, hl2⟩ := Qx hk0
  obtain ⟨f, e⟩ := Qa4 (false, [t, (false, [(19, 0)])]) (by simp; omega) (by simp)
  have e' : F4 (false, [t, (false, [(19, 0)])]) = some (f, t.2 ++ [(19, 0)]) := by rw [e]; simp
  have hq : ∀ no, Fo p t (false, Qb p no) = some (Qc p t.2 no) := fun no => (Q3k hp t hx hk0 false no).2
  have hn : ∀ no, Fo p (f, t.2 ++ [(19, 0)]) (false, Qb p no) = some (!Qc p t.2 no) := fun no => Qbq hp t hx hk f false _ (Q19 hp no) (Q1k hp no)
  rw [F6gE, e', J0, Q29 hp t _ hq a ha hai, Q29 hp _ _ hn b hb hbi, Q29 hp _ _ hn a ha hai, Q29 hp t _ hq b hb hbi]
  simp only [J0]
  have ea : (a.2.all fun no => !Qc p t.2 no) = !a.2.any (Qc p t.2) := by rw [List.any_eq_not_all_not, Bool.not_not]
  have eb : (b.2.all fun no => !Qc p t.2 no) = !b.2.any (Qc p t.2) := by rw [List.any_eq_not_all_not, Bool.not_not]
  rw [ea, eb]
  unfold Q31
  cases a.2.all (Qc p t.2) <;> cases b.2.any (Qc p t.2) <;> cases a.2.any (Qc p t.2) <;> rfl
theorem Qbp (n : Nat) (h : n ≤ 1099511627776) : ∃ b, F6i (n : Int) = some (b, []) := by
  have hlim := J7
  have e : IntKind.i64.wrap ((n : Int) - IntKind.i64.wrap (0 - 0)) = (n : Int) := by
    rw [show IntKind.i64.wrap (0 - 0) = 0 from wr (by omega), wr (by omega)]
    omega
  rw [F6iE, e, gF (by omega)]
  by_cases h0 : n = 0
  · rw [gF (by omega)]
    exact ⟨_, rfl⟩
  · rw [gT (by omega), gT (by omega), gT (by omega), gT (by simp; omega), gT (by omega)]
    exact ⟨_, rfl⟩
theorem Q5e (s l : Bool × List (Bool × List (Bool × List DNode))) (d : Nat) : ∀ (i k : Nat), i + d = l.2.length → k + ((l.2.drop i).map fun x => x.2.length).sum ≤ 1099511627776 → l.2.length ≤ 1099511627776 →
    F9i s (k : Int) l (l.2.length : Int) (i : Int) = some ((k + ((l.2.drop i).map fun x => x.2.length).sum : Nat) : Int) := by
  induction d with
  | zero =>
    intro i k hi hk hl
    rw [F9iE, gF (by omega), Ka (by omega)]
    rfl
  | succ d ih =>
    intro i k hi hk hl
    have hlt : i < l.2.length := by omega
    rw [K3 hlt] at hk ⊢
    simp only [K14, List.sum_cons] at hk ⊢
    rw [F9iE, gT (by omega), gT (by omega), gT (by omega), J2 l.2 _ i hlt, show (k : Int) + (l.2[i].2.length : Int) = ((k + l.2[i].2.length : Nat) : Int) by omega, wr (by omega), gF (by omega), up1 i (by omega), J1, ih (i + 1) _ (by omega) (by omega) hl]
    congr 2
    omega
theorem Q5f (l : Bool × List (Bool × List (Bool × List DNode))) (d : Nat) : ∀ (i : Nat) (b : Bool) (out : List (Bool × List DNode)), i + d = l.2.length → out.length + ((l.2.drop i).map fun x => x.2.length).sum ≤ 1099511627776 → l.2.length ≤ 1099511627776 →
    ∃ b', F7o (b, out) l (l.2.length : Int) (i : Int) = some (b', out ++ ((l.2.drop i).map fun x => x.2).flatten) := by
  have hlim := J7
  induction d with
  | zero =>
    intro i b out hi hk hl
    rw [F7oE, gF (by omega), Ka (by omega)]
    exact ⟨b, by simp⟩
  | succ d ih =>
    intro i b out hi hk hl
    have hlt : i < l.2.length := by omega
    rw [K3 hlt] at hk ⊢
    simp only [K14, List.sum_cons, List.flatten_cons] at hk ⊢
    rw [F7oE, gT (by omega), gT (by omega), gT (by omega), J2 l.2 _ i hlt, gT (by simp only; omega), up1 i (by omega), J1]
    obtain ⟨b', g⟩ := ih (i + 1) (b && l.2[i].2.isEmpty) (out ++ l.2[i].2) (by omega) (by rw [Kj]; omega) hl
    exact ⟨b', by rw [g]; simp⟩
theorem Q83 (l : Bool × List (Bool × List (Bool × List DNode))) (h : (l.2.map fun x => x.2.length).sum ≤ 1099511627776) (hl : l.2.length ≤ 1099511627776) : ∃ b, F17 l = some (b, (l.2.map fun x => x.2).flatten) := by
  have h0 := Q5e l l l.2.length 0 0 (by omega) (by simpa using h) hl
  rw [Kg, K1g] at h0
  have h0' : F9i l 0 l (l.2.length : Int) 0 = _ := h0
  obtain ⟨b1, h1⟩ := Qbp _ h
  obtain ⟨b2, h2⟩ := Q5f l l.2.length 0 b1 [] (by omega) (by simpa using h) hl
  rw [Kg, Kv] at h2
  have h2' : F7o (b1, []) l (l.2.length : Int) 0 = _ := h2
  exact ⟨b2, by rw [F17E, h0', J0, h1, J0, h2', J0]⟩
/-- the place of the first term that tells two lists of states Q31, -1 where there is none -/
noncomputable def Q2m (p : DProgram) (terms : List (Bool × List DNode)) (a b : List Int) : Int := bif terms.any fun t => Q31 p t.2 a b then (terms.findIdx fun t => Q31 p t.2 a b : Int) else -1
theorem Qdq {p : DProgram} (hp : Sml p) (terms : Bool × List (Bool × List DNode)) (ht : terms.2.length ≤ 40) (hx : ∀ t ∈ terms.2, WfN t.2) (hk : ∀ t ∈ terms.2, Q1 p.1 p.2.1 t.2 = 2) (a b : Bool × List Int) (ha : a.2.length ≤ 1048576) (hb : b.2.length ≤ 1048576) (hai : ∀ x ∈ a.2, 0 ≤ x ∧ x < (Q0 p : Int)) (hbi : ∀ x ∈ b.2, 0 ≤ x ∧ x < (Q0 p : Int)) :
    F3d p terms a b = some (Q2m p terms.2 a.2 b.2) := by
  have h := Ja terms.2 (fun t => Q31 p t.2 a.2 b.2) (fun i => F8r a b p terms (terms.2.length : Int) i) (fun i h => by
    have hm := K4 h
    rw [F8rE, gT (by omega), gT (by omega), gT (by omega), J2 terms.2 _ i h, Qdp hp _ (hx _ hm) (by rw [hk _ hm]; decide) a b ha hb hai hbi, J0, up1 i (by omega), J1]) (by rw [F8rE, gF (by omega)])
  rw [F3dE, h, Q2m]
  cases terms.2.any fun t => Q31 p t.2 a.2 b.2 <;> rfl
theorem Qa6 {p : DProgram} (hp : Sml p) (terms : Bool × List (Bool × List DNode)) (ht : terms.2.length ≤ 40) (hx : ∀ t ∈ terms.2, WfN t.2) (hk : ∀ t ∈ terms.2, Q1 p.1 p.2.1 t.2 = 2) (a b : Bool × List Int) (ha : a.2.length ≤ 1048576) (hb : b.2.length ≤ 1048576) (hai : ∀ x ∈ a.2, 0 ≤ x ∧ x < (Q0 p : Int)) (hbi : ∀ x ∈ b.2, 0 ≤ x ∧ x < (Q0 p : Int)) :
    F44 p terms a b = some (Q2m p terms.2 a.2 b.2) := by
  have hm := Q6 hp
  have h := Ja terms.2 (fun t => Q31 p t.2 a.2 b.2) (fun i => F92 terms (p, (a, (b, ()))) (terms.2.length : Int) i) (fun i h => by
    have hmem := K4 h
    rw [F92E, gT (by omega), gT (by omega), gT (by omega), J2 terms.2 _ i h, F72E, Qcm hp _ (hx _ hmem) (hk _ hmem) a b ha hb (fun x hx => by have := hai x hx; omega) (fun x hx => by have := hbi x hx; omega), J0, J0, up1 i (by omega), J1]) (by rw [F92E, gF (by omega)])
  rw [F44E, F38E, h, Q2m]
  cases terms.2.any fun t => Q31 p t.2 a.2 b.2 <;> rfl
/-- putting numbers for the variables of a condition leaves it a condition -/
theorem Qdf {wide vars : Int} {t : List DNode} {rows : List (List DNode)} (h : Q1 wide vars t = 2) (h2 : Q1 wide vars (putL t rows) ≠ 0) : Q1 wide vars (putL t rows) = 2 := by
  have hl := (Qx (show Q1 wide vars t ≠ 0 by omega)).2.2.2.2.1
  have hne : t ≠ [] := by intro e; rw [e] at hl; simp at hl
  have hk := (Q1f (show Q1 wide vars t ≠ 0 by omega) hne).2
  have hop : (t.getLast hne).1 ≠ 2 := by
    intro e
    rw [e, h] at hk
    exact absurd hk (by decide)
  have e : putL t rows = putL t.dropLast rows ++ [t.getLast hne] := by
    conv => lhs; rw [← List.dropLast_concat_getLast hne]
    rw [putL, List.flatMap_append, K13, List.flatMap_nil, if_neg hop]
    rfl
  have hne2 : putL t rows ≠ [] := by rw [e]; simp
  have hk2 := (Q1f h2 hne2).2
  have hlast : (putL t rows).getLast hne2 = t.getLast hne := by
    have : (putL t rows).getLast? = some (t.getLast hne) := by rw [e, List.getLast?_concat]
    rw [List.getLast?_eq_some_getLast hne2] at this
    exact Option.some.inj this
  rw [hk2, hlast, ← hk, h]
theorem Q95 {P : List DNode → Prop} {o : List (List DNode)} {t : List DNode} (h : ∀ r ∈ o, P r) (ht : P t) : ∀ r ∈ addT o t, P r := by
  intro r hr
  unfold addT at hr
  split at hr
  · exact h r hr
  · split at hr
    · exact h r hr
    · rcases Kh.1 hr with hr | hr
      · exact h r hr
      · rw [K18] at hr; exact hr ▸ ht
theorem Q34 {α β : Type} {P : β → Prop} (f : β → α → β) (l : List α) (h : ∀ b, ∀ a ∈ l, P b → P (f b a)) : ∀ b, P b → P (l.foldl f b) := by
  induction l with
  | nil => intro b hb; exact hb
  | cons a l ih => intro b hb; exact ih (fun b x hx => h b x (K8 _ hx)) _ (h b a Kp hb)
/-- all terms that are tried are conditions -/
theorem Qay {p : DProgram} (hg : Q4 p = true) (hw : WfP p) (preds : List (List DNode)) (hp : ∀ t ∈ preds, Q1 p.1 p.2.1 t = 2 ∧ WfN t) : ∀ r ∈ Q5w p preds, Q1 p.1 p.2.1 r = 2 ∧ WfN r := by
  obtain ⟨h1, h2, h3, h4⟩ := Q11 hg
  have hv : p.2.1 ≤ 4 := by omega
  unfold Q5w
  refine Q34 (P := fun o => ∀ r ∈ o, Q1 p.1 p.2.1 r = 2 ∧ WfN r) _ preds (fun o t ht ho => ?_) _ ?_
  · refine Q34 (P := fun o => ∀ r ∈ o, Q1 p.1 p.2.1 r = 2 ∧ WfN r) _ p.2.2.2.2 (fun o c hc ho => ?_) o ho
    unfold Qz
    split
    · rename_i hb
      refine Q95 ho ?_
      unfold Q17 Q1m at hb ⊢
      split at hb
      · rename_i hcnd
        rw [if_pos hcnd]
        exact ⟨Qdf (hp t ht).1 hcnd.2.2.2, Q9s (hp t ht).2 fun r hr => by
          obtain ⟨q, hq, rfl⟩ := Kt.1 hr
          exact Q7m hv (hw.2 c hc) q hq⟩
      · exact absurd hb (by simp)
    · exact ho
  · exact Q34 (P := fun o => ∀ r ∈ o, Q1 p.1 p.2.1 r = 2 ∧ WfN r) _ p.2.2.2.2 (fun o c hc ho => Q95 ho ⟨(Q3g hg c hc).1, (hw.2 c hc).1⟩) [] (by simp)
theorem Q6q (p : DProgram) (t : List DNode) (n : Nat) : Qw (Q3 p t 0 n) := by
  refine List.Pairwise.filter _ ?_
  rw [List.pairwise_map]
  exact (List.pairwise_lt_range' (s := 0) (n := n)).imp (fun h => Int.ofNat_lt.2 h)
/-- a step into some states -/
noncomputable def Q1o (p : DProgram) (c : List Int) (s : Int) : Bool := (Q9 p s).any fun x => c.any fun y => y == x
/-- the rows of a way, without what leads nowhere -/
noncomputable def canL (p : DProgram) : List (List Int) → List (List Int)
  | [] => []
  | l :: A => (match canL p A with
    | [] => l
    | c :: _ => l.filter (Q1o p c)) :: canL p A
theorem Q1d (p : DProgram) (A : List (List Int)) : (canL p A).length = A.length := by
  induction A with
  | nil => rfl
  | cons l A ih => simp [canL, ih]
theorem Q3d {p : DProgram} {l c : List Int} {A C : List (List Int)} (h : canL p A = c :: C) : canL p (l :: A) = l.filter (Q1o p c) :: c :: C := by
  simp only [canL, h]
/-- the first step into each row -/
noncomputable def Q7w (p : DProgram) : Int → List (List Int) → List Int
  | _, [] => []
  | s, c :: C => ((Q9 p s).find? fun x => c.any fun y => y == x).getD 0 :: Q7w p (((Q9 p s).find? fun x => c.any fun y => y == x).getD 0) C
theorem Q7x (p : DProgram) (C : List (List Int)) : ∀ s, (Q7w p s C).length = C.length := by
  induction C with
  | nil => intro s; rfl
  | cons c C ih => intro s; simp [Q7w, ih]
noncomputable def Qar (p : DProgram) (A : List (List Int)) : List Int := match canL p A with
  | [] => []
  | c :: C => c.getD 0 0 :: Q7w p (c.getD 0 0) C
theorem Q4b (p : DProgram) (A : List (List Int)) : (Qar p A).length = A.length := by
  have h := Q1d p A
  unfold Qar
  split
  · rename_i e
    rw [e] at h
    exact h
  · rename_i c C e
    rw [e] at h
    rw [← h, Ks, Ks, Q7x]
/-- each state has one J93 it -/
def Goes (p : DProgram) : Int → List (List Int) → Prop
  | _, [] => True
  | s, c :: C => Q1o p c s = true ∧ ∀ t ∈ c, Goes p t C
theorem Q6v (p : DProgram) (A : List (List Int)) : ∀ c C, canL p A = c :: C → ∀ s ∈ c, Goes p s C := by
  induction A with
  | nil => intro c C h; cases h
  | cons l A ih =>
    intro c C h s hs
    cases hA : canL p A with
    | nil =>
      simp only [canL, hA, Kq] at h
      rw [← h.2]
      trivial
    | cons d D =>
      rw [Q3d hA, Kq] at h
      obtain ⟨rfl, rfl⟩ := h
      exact ⟨(K1m.1 hs).2, fun t ht => ih d D hA t ht⟩
/-- each state has one ahead of it -/
def Q6s (p : DProgram) : List (List Int) → Prop
  | [] => True
  | l :: A => (∀ m ∈ A.head?, ∀ t ∈ m, ∃ s ∈ l, t ∈ Q9 p s) ∧ Q6s p A
theorem Q6w {p : DProgram} (A : List (List Int)) : ∀ l, (∀ m ∈ l :: A, m ≠ []) → Q6s p (l :: A) → ∃ c C, canL p (l :: A) = c :: C ∧ c ≠ [] ∧ ∀ x ∈ c, x ∈ l := by
  induction A with
  | nil => intro l h _; exact ⟨l, [], rfl, h l (by simp), fun x hx => hx⟩
  | cons m A ih =>
    intro l h hL
    obtain ⟨c, C, e, h1, h2⟩ := ih m (fun x hx => h x (K8 _ hx)) hL.2
    refine ⟨_, _, Q3d e, ?_, fun x hx => (K1m.1 hx).1⟩
    obtain ⟨t, ht⟩ := List.exists_mem_of_ne_nil _ h1
    obtain ⟨s, hs, hts⟩ := hL.1 m rfl t (h2 t ht)
    have : s ∈ l.filter (Q1o p c) := K1m.2 ⟨hs, K11.2 ⟨t, hts, K11.2 ⟨t, ht, by simp⟩⟩⟩
    intro hn
    rw [hn] at this
    cases this
theorem Q3e {p : DProgram} {Q : List Int → Prop} (hQ : ∀ l q, Q l → Q (l.filter q)) (A : List (List Int)) (h : ∀ l ∈ A, Q l) : ∀ c ∈ canL p A, Q c := by
  induction A with
  | nil => intro c hc; cases hc
  | cons l A ih =>
    intro c hc
    have ih' := ih fun m hm => h m (K8 _ hm)
    cases hA : canL p A with
    | nil =>
      simp only [canL, hA, K18] at hc
      subst hc
      exact h c (by simp)
    | cons d D =>
      rw [Q3d hA] at hc
      rcases Kd.1 hc with rfl | hc
      · exact hQ _ _ (h l (by simp))
      · exact ih' c (by rw [hA]; exact hc)
/-- the rows of a way of classes -/
theorem Q60 {p : DProgram} (v : List Int) (path : List Int) : ∀ now, Q6s p (Qi p v now path) := by
  induction path with
  | nil => intro now; trivial
  | cons c path ih =>
    intro now
    refine ⟨fun m hm t ht => ?_, ih _⟩
    cases path with
    | nil => cases hm
    | cons c2 path =>
      simp only [Qi, List.head?_cons, Option.mem_some_iff] at hm
      subst hm
      have h1 := (K1m.1 ht).1
      rw [Qh, List.mem_flatMap] at h1
      exact h1
theorem Q61 (p : DProgram) (v : List Int) (path : List Int) : ∀ now, Qw now → ∀ l ∈ Qi p v now path, Qw l := by
  induction path with
  | nil => intro now _ l hl; cases hl
  | cons c path ih =>
    intro now hn l hl
    rcases Kd.1 hl with rfl | hl
    · exact List.Pairwise.filter _ hn
    · exact ih _ (Qo _) l hl
/-- the first of one rising list in another one is the first of that one in this one -/
theorem Q2u {a : List Int} (ha : Qw a) (q : Int → Bool) {x : Int} (h : a.find? q = some x) : x ∈ a ∧ q x = true ∧ ∀ y ∈ a, q y = true → x ≤ y := by
  induction a with
  | nil => cases h
  | cons b a ih =>
    rw [List.find?_cons] at h
    have hp := List.pairwise_cons.1 ha
    cases hq : q b with
    | true =>
      rw [hq] at h
      obtain rfl := Option.some.inj h
      refine ⟨by simp, hq, fun y hy _ => ?_⟩
      rcases Kd.1 hy with rfl | hy
      · exact Int.le_refl _
      · exact Int.le_of_lt (hp.1 y hy)
    | false =>
      rw [hq] at h
      obtain ⟨h1, h2, h3⟩ := ih hp.2 h
      refine ⟨K8 _ h1, h2, fun y hy hqy => ?_⟩
      rcases Kd.1 hy with rfl | hy
      · rw [hq] at hqy; cases hqy
      · exact h3 y hy hqy
theorem Qbm {a c : List Int} (ha : Qw a) (hc : Qw c) : (c.find? fun x => a.any fun y => x == y) = a.find? fun x => c.any fun y => y == x := by
  have mem : ∀ {q : Int → Bool} {l : List Int} {z : Int}, z ∈ l → q z = true → ∃ x, l.find? q = some x := fun {q l z} h1 h2 => by
    cases h : l.find? q with
    | some x => exact ⟨x, rfl⟩
    | none =>
      have := List.find?_eq_none.1 h z h1
      exact absurd h2 this
  cases h : c.find? fun x => a.any fun y => x == y with
  | some x =>
    obtain ⟨h1, h2, h3⟩ := Q2u hc _ h
    obtain ⟨y, hy, hxy⟩ := K11.1 h2
    have e : x = y := by simpa using hxy
    subst e
    obtain ⟨z, hz⟩ := mem (q := fun x => c.any fun y => y == x) hy (K11.2 ⟨x, h1, by simp⟩)
    obtain ⟨g1, g2, g3⟩ := Q2u ha _ hz
    obtain ⟨w, hw, hwz⟩ := K11.1 g2
    have e : w = z := by simpa using hwz
    subst e
    have a1 := h3 w hw (K11.2 ⟨w, g1, by simp⟩)
    have a2 := g3 x hy (K11.2 ⟨x, h1, by simp⟩)
    rw [hz]
    congr 1
    omega
  | none =>
    cases hz : a.find? fun x => c.any fun y => y == x with
    | none => rfl
    | some z =>
      obtain ⟨g1, g2, g3⟩ := Q2u ha _ hz
      obtain ⟨w, hw, hwz⟩ := K11.1 g2
      have e : w = z := by simpa using hwz
      subst e
      have := List.find?_eq_none.1 h w hw
      exact absurd (K11.2 ⟨w, g1, by simp⟩) this
theorem Q53 {p : DProgram} {c : List Int} {s : Int} (h : Q1o p c s = true) : ∃ t, ((Q9 p s).find? fun x => c.any fun y => y == x) = some t ∧ t ∈ Q9 p s ∧ t ∈ c := by
  obtain ⟨t, ht, h2⟩ := K11.1 h
  cases h3 : (Q9 p s).find? fun x => c.any fun y => y == x with
  | none => exact absurd h2 (List.find?_eq_none.1 h3 t ht)
  | some x =>
    obtain ⟨h4, h5, _⟩ := Q2u (Q2p p s) _ h3
    obtain ⟨w, hw, hwx⟩ := K11.1 h5
    have e : w = x := by simpa using hwx
    subst e
    exact ⟨w, rfl, h4, hw⟩
/-! the reference -/
theorem Qf9 {p : DProgram} (hok : Ok p) (along can : Bool × List (Bool × List Int)) (k : Nat) (hk : k < 1000000) (b : Bool) (c : List Int) (hc : (can.2.getD (k + 1) (true, [])) = (b, c)) (hkc : k + 1 < can.2.length) (hcl : c.length ≤ 1048576) (l : Bool × List Int) (hl : InS p l.2) (d : Nat) : ∀ (i : Nat) (o : List Int), i + d = l.2.length → o.length ≤ i →
    F7c along p can (k : Int) (o.isEmpty, o) l (l.2.length : Int) (i : Int) = some ((o ++ (l.2.drop i).filter (Q1o p c)).isEmpty, o ++ (l.2.drop i).filter (Q1o p c)) := by
  have hlim := J7
  have hms := Q6 hok.sml
  have hl1 := hl.1
  induction d with
  | zero =>
    intro i o hi ho
    rw [F7cE, gF (by omega), Ka (by omega)]
    simp
  | succ d ih =>
    intro i o hi ho
    have hlt : i < l.2.length := by omega
    have hx := hl.2 _ (K4 hlt)
    obtain ⟨b1, e1⟩ := Q9n hok (l.2[i]) (by omega)
    have hnl := Qd hok hx
    have e2 := Qc3 (b1, Q9 p l.2[i]) (b, c) (by simp only; omega) hcl
    rw [F7cE, gT (by omega), gT (by omega), gT (by omega), J2 l.2 _ i hlt, e1, J0, up1 k (by omega), gT (by omega), gT (by omega), K7, hc, e2, J0, up1 i (by omega), K3 hlt, K1l]
    have ed : ((Q9 p l.2[i]).any fun x => c.any fun y => y == x) = Q1o p c l.2[i] := rfl
    simp only [ed]
    cases hh : Q1o p c l.2[i] with
    | true =>
      have e := ih (i + 1) (o ++ [l.2[i]]) (by omega) (by simp; omega)
      have e0 : (o ++ [l.2[i]]).isEmpty = false := by simp
      rw [e0] at e
      rw [cond_true, gT (by simp; omega), J1, K1r, e]
      simp
    | false =>
      rw [cond_false, J1, ih (i + 1) o (by omega) (by omega)]
      simp
/-- rows with their marks of nil -/
def mkR (g : List Int → Bool) (A : List (List Int)) : List (Bool × List Int) := A.map fun l => (g l, l)
theorem Qe (g : List Int → Bool) (A : List (List Int)) : (mkR g A).length = A.length := by simp [mkR]
theorem Q5p (g : List Int → Bool) (A : List (List Int)) {k : Nat} (h : k < A.length) : (mkR g A).getD k (true, []) = (g A[k], A[k]) := by simp [mkR, K1, h]
theorem Qc9 (g : List Int → Bool) (A : List (List Int)) (k : Nat) (l : List Int) : (mkR g A).set k (g l, l) = mkR g (A.set k l) := by simp [mkR, List.map_set]
/-- a row is done: what is done begins one row earlier -/
theorem Q9b {p : DProgram} (A : List (List Int)) (n : Nat) (h : n + 1 < A.length) : ∃ c C, canL p (A.drop (n + 1)) = c :: C ∧ (A.take (n + 1) ++ canL p (A.drop (n + 1)))[n + 1]? = some c ∧ (A.take (n + 1) ++ canL p (A.drop (n + 1)))[n]? = some A[n] ∧ (A.take (n + 1) ++ canL p (A.drop (n + 1))).set n (A[n].filter (Q1o p c)) = A.take n ++ canL p (A.drop n) := by
  have hl := Q1d p (A.drop (n + 1))
  cases e : canL p (A.drop (n + 1)) with
  | nil => rw [e, List.length_drop, List.length_nil] at hl; omega
  | cons c C =>
    have ht : (A.take (n + 1)).length = n + 1 := by rw [K1s]; omega
    refine ⟨c, C, rfl, ?_, ?_, ?_⟩
    · rw [Km (by omega), ht, Nat.sub_self]
      rfl
    · rw [Kl (by omega), K1y (by omega), Kb (by omega)]
    · have e2 : A.take (n + 1) = A.take n ++ [A[n]] := K1c (by omega)
      have e3 : A.drop n = A[n] :: A.drop (n + 1) := K3 (by omega)
      rw [e2, e3, Q3d e, Kk, List.set_append_right _ _ (by rw [K1s]; omega)]
      have : n - (A.take n).length = 0 := by rw [K1s]; omega
      rw [this]
      rfl
theorem Qf8 {p : DProgram} (hok : Ok p) (b b2 : Bool) (A : List (List Int)) (hA : ∀ l ∈ A, InS p l) (hl : A.length ≤ 1000000) (n : Nat) : n + 1 ≤ A.length →
    F86 (b2, mkR List.isEmpty A) p (b, mkR List.isEmpty (A.take n ++ canL p (A.drop n))) ((n : Int) - 1) = some (b, mkR List.isEmpty (canL p A)) := by
  have hm := Q6 hok.sml
  induction n with
  | zero =>
    intro _
    rw [F86E, gF (by omega)]
    rfl
  | succ n ih =>
    intro hn
    obtain ⟨c, C, e1, e2, e3, e4⟩ := Q9b (p := p) A n (by omega)
    have hlen : (A.take (n + 1) ++ canL p (A.drop (n + 1))).length = A.length := by rw [Kj, Q1d, K1s, List.length_drop]; omega
    have hcI : InS p c := Q3e (p := p) (Q := InS p) (fun l q h => h.filter q) (A.drop (n + 1)) (fun l hl => hA l (List.mem_of_mem_drop hl)) c (by rw [e1]; simp)
    have hrow : InS p A[n] := hA _ (K4 _)
    obtain ⟨h2, e2'⟩ := K9.1 e2
    have hat : (mkR List.isEmpty (A.take (n + 1) ++ canL p (A.drop (n + 1)))).getD (n + 1) (true, []) = (c.isEmpty, c) := by rw [Q5p _ _ h2, e2']
    have e5 := Qf9 hok (b2, mkR List.isEmpty A) (b, mkR List.isEmpty (A.take (n + 1) ++ canL p (A.drop (n + 1)))) n (by omega) c.isEmpty c hat (by rw [Qe]; exact h2) (by have := hcI.1; omega) (A[n].isEmpty, A[n]) hrow A[n].length 0 [] (by simp) (by simp)
    have e5' : F7c (b2, mkR List.isEmpty A) p (b, mkR List.isEmpty (A.take (n + 1) ++ canL p (A.drop (n + 1)))) (n : Int) (true, []) (A[n].isEmpty, A[n]) (A[n].length : Int) 0 = _ := e5
    have ek : ((n + 1 : Nat) : Int) - 1 = (n : Int) := by omega
    rw [F86E, ek, gT (by omega), gT (by omega), gT (by simp only [Qe]; omega)]
    simp only [K7, Q5p List.isEmpty A (show n < A.length by omega), e5', J0, Kv, Kg]
    rw [gT (by omega), gT (by rw [Qe]; omega), Qc9, e4, wr (by omega), J1, ih (by omega)]
theorem Qfb {p : DProgram} (can : Bool × List (Bool × List Int)) (k : Nat) (hk : k < can.2.length) (b : Bool) (c : List Int) (hc : can.2.getD k (true, []) = (b, c)) (hcl : c.length ≤ 1048576) (out : List Int) (hout : out.length ≤ 1000000) (l : Bool × List Int) (hl : l.2.length ≤ 1048576) (t : Int) (d : Nat) : ∀ (i : Nat), i + d = l.2.length → ((l.2.drop i).find? fun x => c.any fun y => y == x) = some t →
    F7t p can (false, out) (k : Int) l (l.2.length : Int) (i : Int) = some (false, out ++ [t]) := by
  have hlim := J7
  induction d with
  | zero =>
    intro i hi hf
    rw [Ka (by omega)] at hf
    cases hf
  | succ d ih =>
    intro i hi hf
    have hlt : i < l.2.length := by omega
    rw [K3 hlt, List.find?_cons] at hf
    rw [F7tE, gT (by omega), gT (by omega), gT (by omega), J2 l.2 _ i hlt, gT (by omega), gT (by omega), K7, hc, Qaj _ _ hcl, J0, up1 i (by omega)]
    simp only
    cases hh : c.any fun y => y == l.2[i] with
    | true =>
      rw [hh] at hf
      obtain rfl := Option.some.inj hf
      rw [cond_true, gT (by simp; omega), K1r]
    | false =>
      rw [hh] at hf
      rw [cond_false, J1, ih (i + 1) (by omega) hf]
theorem Qfa {p : DProgram} (hok : Ok p) (b : Bool) (D : List (List Int)) (hD : ∀ l ∈ D, InS p l) (hl : D.length ≤ 1000000) (d : Nat) : ∀ (k : Nat) (o : List Int) (s : Int), k + d = D.length → o.length + 1 = k → (0 ≤ s ∧ s < (Q0 p : Int)) → Goes p s (D.drop k) →
    F8t p (b, mkR List.isEmpty D) (false, o ++ [s]) (k : Int) = some (false, o ++ s :: Q7w p s (D.drop k)) := by
  have hm := Q6 hok.sml
  induction d with
  | zero =>
    intro k o s hk ho hs hg
    rw [F8tE, gF (by simp only [Qe]; omega), Ka (by omega)]
    rfl
  | succ d ih =>
    intro k o s hk ho hs hg
    have hlt : k < D.length := by omega
    have e0 : D.drop k = D[k] :: D.drop (k + 1) := K3 hlt
    rw [e0] at hg
    obtain ⟨g1, g2⟩ := hg
    obtain ⟨t, t1, t2, t3⟩ := Q53 g1
    obtain ⟨b1, e1⟩ := Q9n hok s (by omega)
    have hrow := hD _ (K4 hlt)
    have hnl := Qd hok hs
    have e2 := Qfb (p := p) (b, mkR List.isEmpty D) k (by simp only [Qe]; omega) (D[k].isEmpty) D[k] (Q5p _ _ hlt) (by have := hrow.1; omega) (o ++ [s]) (by simp; omega) (b1, Q9 p s) (by simp only; omega) t (Q9 p s).length 0 (by simp) (by rw [Kg]; exact t1)
    have e2' : F7t p (b, mkR List.isEmpty D) (false, o ++ [s]) (k : Int) (b1, Q9 p s) ((Q9 p s).length : Int) 0 = _ := e2
    have hget : (o ++ [s]).getD (k - 1) 0 = s := by
      rw [K1, Km (by omega), show k - 1 - o.length = 0 by omega]
      rfl
    rw [F8tE, gT (by simp only [Qe]; omega), dn1 k (by omega) (by omega), gT (by omega), gT (by simp; omega), K7, hget, e1, J0, e2', J0, up1 k (by omega), J1, ih (k + 1) (o ++ [s]) t (by omega) (by simp; omega) (hrow.2 t t3) (g2 t t3), e0, Q7w, t1]
    simp
theorem Qbw {p : DProgram} (hok : Ok p) (b : Bool) (A : List (List Int)) (h1 : 1 ≤ A.length) (hl : A.length ≤ 1000000) (hA : ∀ l ∈ A, InS p l) (hne : ∀ l ∈ A, l ≠ []) (hL : Q6s p A) : Fa p (b, A.map fun l => (l.isEmpty, l)) = some (false, Qar p A) := by
  have hlim := J7
  obtain ⟨l, A2, rfl⟩ : ∃ l A2, A = l :: A2 := by
    cases A with
    | nil => simp at h1
    | cons l A2 => exact ⟨l, A2, rfl⟩
  obtain ⟨c, C, e, c1, _⟩ := Q6w A2 l hne hL
  have hcan : ∀ m ∈ canL p (l :: A2), InS p m := Q3e (Q := InS p) (fun l q h => h.filter q) _ hA
  have hlast : ∀ (B : List (List Int)) (h : 1 ≤ B.length), B.take (B.length - 1) ++ canL p (B.drop (B.length - 1)) = B := by
    intro B h
    have e : B.drop (B.length - 1) = [B[B.length - 1]] := by
      rw [K3 (by omega), Ka (by omega)]
    have e2 : canL p (B.drop (B.length - 1)) = B.drop (B.length - 1) := by rw [e]; rfl
    rw [e2, List.take_append_drop]
  have e1 := Qf8 hok false b (l :: A2) hA hl ((l :: A2).length - 1) (by omega)
  rw [hlast _ h1] at e1
  obtain ⟨s, c', rfl⟩ : ∃ s c', c = s :: c' := by
    cases c with
    | nil => exact absurd rfl c1
    | cons s c' => exact ⟨s, c', rfl⟩
  have hs : 0 ≤ s ∧ s < (Q0 p : Int) := (hcan (s :: c') (by rw [e]; simp)).2 s (by simp)
  have hgo := Q6v p _ _ _ e s (by simp)
  have hlen := Q1d p (l :: A2)
  have e2 := Qfa hok false (canL p (l :: A2)) hcan (by rw [hlen]; exact hl) ((l :: A2).length - 1) 1 [] s (by rw [hlen]; omega) rfl hs (by rw [e]; exact hgo)
  have e2' : F8t p (false, mkR List.isEmpty (canL p (l :: A2))) (false, [s]) 1 = _ := e2
  have ew : IntKind.i64.wrap ((((mkR List.isEmpty (l :: A2)).length : Nat) : Int) - 2) = (((l :: A2).length - 1 : Nat) : Int) - 1 := by
    rw [Qe, wr (by omega)]
    omega
  rw [FaE, gT (by simp only [List.length_nil, Ky]; omega), Kv]
  show ((F86 (b, mkR List.isEmpty (l :: A2)) p (false, mkR List.isEmpty (l :: A2)) (IntKind.i64.wrap ((((mkR List.isEmpty (l :: A2)).length : Nat) : Int) - 2))).bind fun r => _) = _
  rw [ew, e1, J0, gT (by rw [Qe, hlen]; omega)]
  have h0 : (mkR List.isEmpty (canL p (l :: A2))).getD 0 (true, []) = ((s :: c').isEmpty, s :: c') := by rw [e]; rfl
  simp only [h0]
  rw [gT (by simp only [Ks]; omega)]
  simp only [List.getD_cons_zero, e2', J0]
  rw [Qar, e]
  rfl
theorem Q9a (c : List Int) (x : Int) : (c.any fun y => x == y) = c.any fun y => y == x := by
  congr 1
  funext y
  rw [Bool.eq_iff_iff, beq_iff_eq, beq_iff_eq]
  exact eq_comm
theorem Q76 {α : Type} (xs : List α) (i j : Nat) (z : α) (h : j < xs.length) (hne : j ≠ i) : (J1k xs i).getD j none = some (xs.getD j z) := by
  have e : (j == i) = false := by simpa using hne
  simp [J1k, K1, List.getElem?_mapIdx, h, e]
theorem Qfc (R : List (Bool × List Int)) (b : Bool) (k : Nat) (hk : k + 1 < R.length) (hl : R.length ≤ 1000000) (c : List Int) (f : Bool) (hc : R.getD (k + 1) (true, []) = (f, c)) (hcl : c.length ≤ 1048576) (to : Int) : F64 to (b, J1k R k) (k : Int) = some (c.any fun y => y == to) := by
  have hlen : (J1k R k).length = R.length := by simp [J1k]
  rw [F64E, up1 k (by omega), gT (by omega), gT (by rw [hlen]; omega), K7, Q76 R k (k + 1) (true, []) hk (by omega), J0, hc, Q33 _ _ hcl, J0, Q9a]
theorem Q68 (R : List (Bool × List Int)) (b : Bool) (k : Nat) (hk : k + 1 < R.length) (hl : R.length ≤ 1000000) (c : List Int) (f : Bool) (hc : R.getD (k + 1) (true, []) = (f, c)) (hcl : c.length ≤ 1048576) (l : Bool × List Int) (hll : l.2.length ≤ 1048576) : F6w l ((b, J1k R k), ((k : Int), ())) = some (l.2.any fun x => c.any fun y => y == x) := by
  have h := Ja l.2 (fun x => c.any fun y => y == x) (fun i => F7v l ((b, J1k R k), ((k : Int), ())) (l.2.length : Int) i) (fun i hi => by
    rw [F7vE, gT (by omega), gT (by omega), gT (by omega), J2 l.2 _ i hi, Qfc R b k hk hl c f hc hcl, J0, up1 i (by omega), J1]) (by rw [F7vE, gF (by omega)])
  rw [F6wE, F3fE]
  exact Je h
theorem Qem {p : DProgram} (hok : Ok p) (gb : Bool) (R : List (Bool × List Int)) (b : Bool) (k : Nat) (hk : k + 1 < R.length) (hl : R.length ≤ 1000000) (c : List Int) (f : Bool) (hc : R.getD (k + 1) (true, []) = (f, c)) (hcl : c.length ≤ 1048576) (no : Int) (hn : 0 ≤ no ∧ no < (Q0 p : Int)) : F4t no (gb, Qy p) (b, J1k R k) (k : Int) = some (!Q1o p c no) := by
  have hg := Q28 p
  have hms := Q6 hok.sml
  have hnl := Qd hok hn
  rw [F4tE, gT hn.1, gT (by simp only; omega)]
  simp only [Q4u hn]
  rw [Q68 R b k hk hl c f hc hcl (false, Q9 p no) (by simp only; omega), J0]
  rfl
theorem Q88 {p : DProgram} (hok : Ok p) (gb : Bool) (R : List (Bool × List Int)) (b : Bool) (k : Nat) (hk : k + 1 < R.length) (hl : R.length ≤ 1000000) (c : List Int) (f : Bool) (hc : R.getD (k + 1) (true, []) = (f, c)) (hcl : c.length ≤ 1048576) (l : Bool × List Int) (hll : l.2.length ≤ 1048576) (hn : ∀ x ∈ l.2, 0 ≤ x ∧ x < (Q0 p : Int)) :
    F2c l ((gb, Qy p), ((b, J1k R k), ((k : Int), ()))) = some (l.1, l.2.filter (Q1o p c)) := by
  have hX := Ja l.2 (fun s => !Q1o p c s) (fun i => Fa5 l ((gb, Qy p), ((b, J1k R k), ((k : Int), ()))) (l.2.length : Int) i) (fun i hi => by
    rw [Fa5E, gT (by omega), gT (by omega), gT (by omega), J2 l.2 _ i hi, Qem hok gb R b k hk hl c f hc hcl _ (hn _ (K4 hi)), J0, up1 i (by omega), J1]) (by rw [Fa5E, gF (by omega)])
  have e : l.2.filter (Q1o p c) = l.2.filter (fun s => !!Q1o p c s) := by
    congr 1
    funext x
    rw [Bool.not_not]
  rw [F2cE, F3gE, e]
  exact Q4r (f := l.1) (fun x => 0 ≤ x ∧ x < (Q0 p : Int)) (fun s i j => F7e s ((gb, Qy p), ((b, J1k R k), ((k : Int), ()))) i j) hll hn (fun s i j hij hj hn2 hP => by
    rw [F7eE, gT (by simp only; omega), gT (by omega), gT (by simp only; omega), J2 s _ j hj, Qem hok gb R b k hk hl c f hc hcl _ (hP _ (K4 hj)), J0, gT (by omega), gT (by simp only; omega), up1 j (by omega), up1 i (by omega), J1, J1, K7]) (fun s i hn => by rw [F7eE, gF (by simp only; omega)]) hX
theorem Qe1 {p : DProgram} (hok : Ok p) (gb b : Bool) (last : Int) (A : List (List Int)) (hA : ∀ l ∈ A, InS p l) (hl : A.length ≤ 1000000) (n : Nat) : n + 1 ≤ A.length →
    F8a (b, mkR (fun _ => false) (A.take n ++ canL p (A.drop n))) (gb, Qy p) last ((n : Int) - 1) = some (b, mkR (fun _ => false) (canL p A)) := by
  have hm := Q6 hok.sml
  induction n with
  | zero =>
    intro _
    rw [F8aE, gF (by omega)]
    rfl
  | succ n ih =>
    intro hn
    obtain ⟨c, C, e1, e2, e3, e4⟩ := Q9b (p := p) A n (by omega)
    have hlen : (A.take (n + 1) ++ canL p (A.drop (n + 1))).length = A.length := by rw [Kj, Q1d, K1s, List.length_drop]; omega
    have hcI : InS p c := Q3e (p := p) (Q := InS p) (fun l q h => h.filter q) (A.drop (n + 1)) (fun l hl => hA l (List.mem_of_mem_drop hl)) c (by rw [e1]; simp)
    have hrow : InS p A[n] := hA _ (K4 _)
    obtain ⟨h2, e2'⟩ := K9.1 e2
    obtain ⟨h3, e3'⟩ := K9.1 e3
    have hat : (mkR (fun _ => false) (A.take (n + 1) ++ canL p (A.drop (n + 1)))).getD (n + 1) (true, []) = (false, c) := by rw [Q5p _ _ h2, e2']
    have hat3 : (mkR (fun _ => false) (A.take (n + 1) ++ canL p (A.drop (n + 1)))).getD n (true, []) = (false, A[n]) := by rw [Q5p _ _ h3, e3']
    have e5 := Q88 hok gb (mkR (fun _ => false) (A.take (n + 1) ++ canL p (A.drop (n + 1)))) b n (by rw [Qe]; exact h2) (by rw [Qe]; omega) c false hat (by have := hcI.1; omega) (false, A[n]) (by have := hrow.1; simp only; omega) hrow.2
    have ek : ((n + 1 : Nat) : Int) - 1 = (n : Int) := by omega
    rw [F8aE, ek, gT (by omega), gT (by omega), gT (by rw [Qe]; omega)]
    simp only [K7, hat3, e5, J0]
    rw [gT (by omega), gT (by rw [Qe]; omega), bT (by simp)]
    have e6 : (mkR (fun _ => false) (A.take (n + 1) ++ canL p (A.drop (n + 1)))).set n (false, A[n].filter (Q1o p c)) = mkR (fun _ => false) (A.take n ++ canL p (A.drop n)) := by
      rw [← e4]
      exact Qc9 (fun _ => false) _ n _
    rw [e6, wr (by omega), J1, ih (by omega)]
theorem Qf7 {p : DProgram} (hok : Ok p) (gb b : Bool) (o : List Int) (s : Int) (hs : 0 ≤ s ∧ s < (Q0 p : Int)) (k : Nat) (hk : o.length + 1 = k) (hk2 : k ≤ 1000000) (to : Int) : F6o to (gb, Qy p) (b, o ++ [s]) (k : Int) = some ((Q9 p s).any fun y => to == y) := by
  have hg := Q28 p
  have hms := Q6 hok.sml
  have hnl := Qd hok hs
  have hget : (o ++ [s]).getD (k - 1) 0 = s := by
    rw [K1, Km (by omega), show k - 1 - o.length = 0 by omega]
    rfl
  rw [F6oE, dn1 k (by omega) (by omega), gT (by omega), gT (by simp; omega), K7]
  simp only [hget]
  rw [gT hs.1, gT (by first | omega | (simp only; omega)), Q4u hs, Q33 _ _ (by simp only; omega), J0]
theorem Qae {p : DProgram} (hok : Ok p) (gb b : Bool) (o : List Int) (s : Int) (hs : 0 ≤ s ∧ s < (Q0 p : Int)) (k : Nat) (hk : o.length + 1 = k) (hk2 : k ≤ 1000000) (l : Bool × List Int) (hl : l.2.length ≤ 1048576) (t : Int) (ht : (l.2.find? fun x => (Q9 p s).any fun y => x == y) = some t) :
    ∃ i : Nat, i < l.2.length ∧ F2s l ((gb, Qy p), ((b, o ++ [s]), ((k : Int), ()))) = some (i : Int) ∧ l.2.getD i 0 = t := by
  have h := Ja l.2 (fun x => (Q9 p s).any fun y => x == y) (fun i => F7q l ((gb, Qy p), ((b, o ++ [s]), ((k : Int), ()))) (l.2.length : Int) i) (fun i hi => by
    rw [F7qE, gT (by omega), gT (by omega), gT (by omega), J2 l.2 _ i hi, Qf7 hok gb b o s hs k hk hk2, J0, up1 i (by omega), J1]) (by rw [F7qE, gF (by omega)])
  have hany : (l.2.any fun x => (Q9 p s).any fun y => x == y) = true := K11.2 ⟨t, List.mem_of_find?_eq_some ht, by have := List.find?_some ht; exact this⟩
  have hlt : l.2.findIdx (fun x => (Q9 p s).any fun y => x == y) < l.2.length := List.findIdx_lt_length.2 (K11.1 hany)
  refine ⟨_, hlt, ?_, ?_⟩
  · rw [F2sE]
    simp only [h, J0, hany, cond_true]
  · have := Q9f _ l.2 hlt
    rw [this] at ht
    have e : l.2.getD (l.2.findIdx fun x => (Q9 p s).any fun y => x == y) 0 = l.2[l.2.findIdx fun x => (Q9 p s).any fun y => x == y] := by simp [K1, hlt]
    rw [e]
    exact Option.some.inj ht
theorem Qe2 {p : DProgram} (hok : Ok p) (gb b : Bool) (D : List (List Int)) (hD : ∀ l ∈ D, InS p l) (hR : ∀ l ∈ D, Qw l) (hl : D.length ≤ 1000000) (d : Nat) : ∀ (k : Nat) (o : List Int) (s : Int), k + d = D.length → o.length + 1 = k → (0 ≤ s ∧ s < (Q0 p : Int)) → Goes p s (D.drop k) →
    F7y (b, mkR (fun _ => false) D) (gb, Qy p) ((D.length : Int) - 1) (false, o ++ [s]) (k : Int) = some (false, o ++ s :: Q7w p s (D.drop k)) := by
  have hm := Q6 hok.sml
  have hlim := J7
  induction d with
  | zero =>
    intro k o s hk ho hs hg
    rw [F7yE, gF (by omega), Ka (by omega)]
    rfl
  | succ d ih =>
    intro k o s hk ho hs hg
    have hlt : k < D.length := by omega
    have e0 : D.drop k = D[k] :: D.drop (k + 1) := K3 hlt
    rw [e0] at hg
    obtain ⟨g1, g2⟩ := hg
    obtain ⟨t, t1, t2, t3⟩ := Q53 g1
    have hrow := hD _ (K4 hlt)
    have hri := hR _ (K4 hlt)
    have ht : (D[k].find? fun x => (Q9 p s).any fun y => x == y) = some t := by rw [Qbm (Q2p p s) hri]; exact t1
    obtain ⟨i, i1, i2, i3⟩ := Qae hok gb false o s hs k ho (by omega) (false, D[k]) (by have := hrow.1; simp only; omega) t ht
    have i1' : i < D[k].length := i1
    have i3' : D[k].getD i 0 = t := i3
    rw [F7yE, gT (by omega), gT (by omega), gT (by rw [Qe]; omega)]
    simp only [K7, Q5p (fun _ => false) D hlt, i2, J0, i3']
    rw [gT (by omega), gT (by rw [Qe]; omega), gT (by omega), gT (by omega), gT (by simp; omega), up1 k (by omega), J1, K1r, ih (k + 1) (o ++ [s]) t (by omega) (by simp; omega) (hrow.2 t t3) (g2 t t3), e0, Q7w, t1]
    simp
/-- what is known of a way that does not fail -/
theorem Q30 {p : DProgram} {v : List Int} (h : Sees p v) (path : List Int) (h1 : 1 ≤ path.length) (hf : ¬ Q1e (Qi p v (Q3 p p.2.2.1.2 0 (Q0 p)) path) ≥ 0) :
    let A := Qi p v (Q3 p p.2.2.1.2 0 (Q0 p)) path
    1 ≤ A.length ∧ (∀ l ∈ A, InS p l) ∧ (∀ l ∈ A, l ≠ []) ∧ Q6s p A ∧ ∀ l ∈ A, Qw l := by
  intro A
  refine ⟨by rw [Qf]; exact h1, Q6t h.ok v path _ (Q3b p.2.2.1.2), fun l hl hn => ?_, Q60 v path _, Q61 p v path _ (Q6q _ _ _)⟩
  apply hf
  unfold Q1e
  have : (A.any fun l => (l.length : Int) == 0) = true := K11.2 ⟨l, hl, by rw [hn]; rfl⟩
  rw [this, cond_true]
  omega
theorem Q9u {p : DProgram} {v : List Int} (h : Sees p v) (f : Bool) (path : Bool × List Int) (h1 : 1 ≤ path.2.length) (hp : path.2.length ≤ 1000000) :
    F2 p (f, v) path = some (if Q1e (Qi p v (Q3 p p.2.2.1.2 0 (Q0 p)) path.2) ≥ 0 then (true, []) else (false, Qar p (Qi p v (Q3 p p.2.2.1.2 0 (Q0 p)) path.2))) := by
  have hlen := Qf p v path.2 (Q3 p p.2.2.1.2 0 (Q0 p))
  have e1 := Q37 h f path (by omega)
  have e2 := (Q3z (Qi p v (Q3 p p.2.2.1.2 0 (Q0 p)) path.2) (fun _ => false) false (by rw [hlen]; omega)).1
  rw [F2E, e1, J0, Qbo h.ok, J0]
  simp only [e2, J0]
  by_cases c : Q1e (Qi p v (Q3 p p.2.2.1.2 0 (Q0 p)) path.2) ≥ 0
  · rw [gT c, if_pos c]
  · rw [gF c, if_neg c]
    obtain ⟨a1, a2, a3, a4, a5⟩ := Q30 h path.2 h1 c
    generalize Qi p v (Q3 p p.2.2.1.2 0 (Q0 p)) path.2 = A at *
    obtain ⟨l, A2, rfl⟩ : ∃ l A2, A = l :: A2 := by
      cases A with
      | nil => simp at a1
      | cons l A2 => exact ⟨l, A2, rfl⟩
    obtain ⟨c, C, e, c1, _⟩ := Q6w A2 l a3 a4
    have hcan : ∀ m ∈ canL p (l :: A2), InS p m := Q3e (Q := InS p) (fun l q h => h.filter q) _ a2
    have hri : ∀ m ∈ canL p (l :: A2), Qw m := Q3e (Q := Qw) (fun l q h => List.Pairwise.filter _ h) _ a5
    have hlast : ∀ (B : List (List Int)) (h : 1 ≤ B.length), B.take (B.length - 1) ++ canL p (B.drop (B.length - 1)) = B := by
      intro B h
      have e : B.drop (B.length - 1) = [B[B.length - 1]] := by
        rw [K3 (by omega), Ka (by omega)]
      have e2 : canL p (B.drop (B.length - 1)) = B.drop (B.length - 1) := by rw [e]; rfl
      rw [e2, List.take_append_drop]
    have hcl := Q1d p (l :: A2)
    have e3 := Qe1 h.ok false false (((l :: A2).length : Int) - 1) (l :: A2) a2 (by omega) ((l :: A2).length - 1) (by omega)
    rw [hlast _ a1] at e3
    obtain ⟨s, c', rfl⟩ : ∃ s c', c = s :: c' := by
      cases c with
      | nil => exact absurd rfl c1
      | cons s c' => exact ⟨s, c', rfl⟩
    have hs : 0 ≤ s ∧ s < (Q0 p : Int) := (hcan (s :: c') (by rw [e]; simp)).2 s (by simp)
    have hgo := Q6v p _ _ _ e s (by simp)
    have e4 := Qe2 h.ok false false (canL p (l :: A2)) hcan hri (by rw [hcl]; omega) ((l :: A2).length - 1) 1 [] s (by rw [hcl]; omega) rfl hs (by rw [e]; exact hgo)
    rw [hcl] at e4
    have e4' : F7y (false, mkR (fun _ => false) (canL p (l :: A2))) (false, Qy p) (((l :: A2).length : Int) - 1) (false, [s]) 1 = _ := e4
    have ew : IntKind.i64.wrap ((((l :: A2).map fun l => (false, l)).length : Int) - 1) = ((l :: A2).length : Int) - 1 := by
      rw [Ky, wr (by omega)]
    have ew2 : IntKind.i64.wrap ((((l :: A2).length : Int) - 1) - 1) = (((l :: A2).length - 1 : Nat) : Int) - 1 := by
      rw [wr (by omega)]
      omega
    simp only [ew, ew2]
    have e3' : F8a (false, (l :: A2).map fun l => (false, l)) (false, (List.range (Q0 p)).map fun s : Nat => (false, Q9 p (s : Int))) (((l :: A2).length : Int) - 1) ((((l :: A2).length - 1 : Nat) : Int) - 1) = _ := e3
    have h0 : (mkR (fun _ => false) (canL p (l :: A2))).getD 0 (true, []) = (false, s :: c') := by rw [e]; rfl
    have hset : (mkR (fun _ => false) (canL p (l :: A2))).set 0 (false, s :: c') = mkR (fun _ => false) (canL p (l :: A2)) := by rw [e]; rfl
    rw [e3', J0, gT (by rw [Qe, hcl]; omega)]
    simp only [h0, hset, List.getD_cons_zero]
    rw [gT (by simp only [Ks]; omega)]
    show ((F7y (false, mkR (fun _ => false) (canL p (l :: A2))) (false, Qy p) (((l :: A2).length : Int) - 1) (false, [s]) 1).bind fun r4 => some (r4.1, r4.2)) = _
    rw [e4', J0, Qar, e]
    rfl
/-- the states of some classes -/
def ofL (v cs : List Int) : List Int := ((List.range v.length).filter fun i => cs.any fun c => c == v.getD i 0).map Int.ofNat
theorem Qbv (v cs : Bool × List Int) (hv : v.2.length ≤ 100000) (hc : cs.2.length ≤ 1048576) : ∃ b, F23 v cs = some (b, ofL v.2 cs.2) := by
  have hlim := J7
  have key : ∀ (d i : Nat) (b : Bool) (o : List Int), i + d = v.2.length → o.length ≤ i → ∃ b', F6q cs (b, o) v (v.2.length : Int) (i : Int) = some (b', o ++ ((List.range' i d).filter fun i => cs.2.any fun c => c == v.2.getD i 0).map Int.ofNat) := by
    intro d
    induction d with
    | zero =>
      intro i b o hi ho
      exact ⟨b, by rw [F6qE, gF (by omega)]; simp⟩
    | succ d ih =>
      intro i b o hi ho
      have hlt : i < v.2.length := by omega
      rw [F6qE, gT (by omega), gT (by omega), gT (by omega), Qk, Qaj cs _ hc, J0, up1 i (by omega), K1a, K1l]
      cases hh : cs.2.any fun c => c == v.2.getD i 0 with
      | true =>
        obtain ⟨b', g⟩ := ih (i + 1) (b && false) (o ++ [(i : Int)]) (by omega) (by simp; omega)
        exact ⟨b', by rw [cond_true, gT (by simp; omega), J1, g]; simp⟩
      | false =>
        obtain ⟨b', g⟩ := ih (i + 1) b o (by omega) (by omega)
        exact ⟨b', by rw [cond_false, J1, g]; simp⟩
  obtain ⟨b, g⟩ := key v.2.length 0 true [] (by omega) (by simp)
  have g' : F6q cs (true, []) v (v.2.length : Int) 0 = _ := g
  refine ⟨b, ?_⟩
  rw [F23E, g', J0, ofL, K1e, Kv]
theorem Qa7 (p : DProgram) {R S : List (Bool × List DNode)} (h : R.map Prod.snd = S.map Prod.snd) (a b : List Int) : Q2m p R a b = Q2m p S a b := by
  have e1 : ∀ R : List (Bool × List DNode), (R.any fun t => Q31 p t.2 a b) = (R.map Prod.snd).any fun t => Q31 p t a b := fun R => by rw [List.any_map]; rfl
  have e2 : ∀ R : List (Bool × List DNode), (R.findIdx fun t => Q31 p t.2 a b) = (R.map Prod.snd).findIdx fun t => Q31 p t a b := fun R => by rw [List.findIdx_map]; rfl
  unfold Q2m
  rw [e1 R, e1 S, e2 R, e2 S, h]
theorem Qdb (p : DProgram) (R : List (Bool × List DNode)) (a b : List Int) : Q2m p R a b = -1 ∨ ∃ k : Nat, k < R.length ∧ Q2m p R a b = (k : Int) := by
  unfold Q2m
  cases h : R.any fun t => Q31 p t.2 a b with
  | false => exact .inl rfl
  | true =>
    rw [K11] at h
    exact .inr ⟨_, List.findIdx_lt_length_of_exists h, rfl⟩
theorem Qa8 (p : DProgram) : ∀ c ∈ (Q5 p).2.2.2.2, c.1.1 = true → c.1.2 = [] := by
  intro c hc
  obtain ⟨d, hd, rfl⟩ := Kt.1 hc
  intro h
  exact absurd h (by simp [Q2l])
theorem Qbe {p : DProgram} {v : List Int} (h : Sees p v) (fv gv : Bool) (f g : Bool) (s : List Int) (hs : InS p s) : ∃ a b, F1r (fv, v) (f, s) = some (a, cutL v s) ∧ F3b (gv, v) (g, s) = some (b, cutL v s) := by
  obtain ⟨a, _, e1, _, _⟩ := Q9c (v := (fv, v)) h f g s hs
  obtain ⟨_, b, _, e2, _⟩ := Q9c (v := (gv, v)) h f g s hs
  exact ⟨a, b, e1, e2⟩
theorem Qd5 {p : DProgram} (hs : Qa p) (hw : WfP p) (hnl : ∀ c ∈ p.2.2.2.2, c.1.1 = true → c.1.2 = []) (fv gv : Bool) (v : List Int) (h1 : Q7 p v = true) (h : Sees p v) (preds : Bool × List (Bool × List DNode)) (hx : ∀ t ∈ preds.2, WfN t.2) (hl : preds.2.length ≤ 1048576) (hpo : Q1l p (preds.2.map Prod.snd) = true) (path : Bool × List Int) (hp : path.2.length ≤ 1048576) (c : ¬ Q1e (Qr p v path.2) < 1) :
    ∃ x y A m, F5i p (fv, v) preds path = some ((x, A), m) ∧ F6s p (gv, v) preds path = some ((y, A), (m, true)) ∧ Q7 p A = true := by
  have hd := Qd8 h path.2
  have e1' : F5m p (gv, v) path = _ := Qd7 h gv path hp
  have hsm : Qp p = true := by
    simp only [Q7, K5] at h1
    exact h1.1
  have hg := (Q40 hsm).1
  have hpo' := hpo
  simp only [Q1l, K5, K10, beq_iff_eq] at hpo'
  have hall := Qay hg hw (preds.2.map Prod.snd) (fun t ht => ⟨hpo'.2 t ht, by
    obtain ⟨u, hu, rfl⟩ := Kt.1 ht
    exact hx u hu⟩)
  obtain ⟨f1, R, q1, q2, q3⟩ := Qdr hg hs hw preds hl hx
  obtain ⟨f2, S, r1, r2, r3⟩ := Qea hg hs hw hnl preds hl hx
  have hR : ∀ t ∈ R, Q1 p.1 p.2.1 t.2 = 2 ∧ WfN t.2 := fun t ht => hall t.2 (by rw [← q1]; exact List.mem_map_of_mem ht)
  have hS : ∀ t ∈ S, Q1 p.1 p.2.1 t.2 = 2 ∧ WfN t.2 := fun t ht => hall t.2 (by rw [← r1]; exact List.mem_map_of_mem ht)
  have hRS : R.map Prod.snd = S.map Prod.snd := by rw [q1, r1]
  have hRl : R.length ≤ 40 := by have := q2.1; rw [Ky] at this; exact this
  have hSl : S.length = R.length := by have := congrArg List.length hRS; simpa using this.symm
  have hrl : (Qr p v path.2).length = path.2.length := Qf p v path.2 _
  have hf := Q9d (Qr p v path.2)
  obtain ⟨b1, g1⟩ := Q6k h fv path hp
  have g1' : Fu p (fv, v) path = some (b1, (Qr p v path.2).map fun l => (l.isEmpty, l)) := g1
  have g2 : F8 p (gv, v) path = some (false, (Qr p v path.2).map fun l => (false, l)) := Q37 h gv path hp
  have k1 := (Q3z (Qr p v path.2) (fun l => l.isEmpty) b1 (by omega)).2
  have k2 := (Q3z (Qr p v path.2) (fun _ => false) false (by omega)).1
  rw [F5iE, F6sE]
  simp only [if_neg c, cond_true, K6, cond_false, e1', g1', g2, k1, k2, q3, r3, J0]
  rw [Qbg] at hd ⊢
  generalize Q1e (Qr p v path.2) = k at hf hd c ⊢
  obtain ⟨n, rfl⟩ : ∃ n : Nat, k = ((n + 1 : Nat) : Int) := ⟨(k - 1).toNat, by omega⟩
  have hn : n < (Qr p v path.2).length := by omega
  have ew : IntKind.i64.wrap (((n + 1 : Nat) : Int) - 1) = (n : Int) := by rw [wr (by omega)]; omega
  rw [K7, Nat.add_sub_cancel] at hd ⊢
  have e : (Qr p v path.2).getD n [] = (Qr p v path.2)[n] := by simp [K1, hn]
  rw [e] at hd ⊢
  simp only [ew]
  obtain ⟨b2, u1⟩ := Qfx h fv (path.2.getD n 0) (path.2.getD (n + 1) 0)
  have u1' : F27 p (fv, v) (path.2.getD n 0) (path.2.getD (n + 1) 0) = some (b2, onL p v (path.2.getD n 0) (path.2.getD (n + 1) 0)) := u1
  have u2 : F1e p (gv, v) (path.2.getD n 0) (path.2.getD (n + 1) 0) = some (false, onL p v (path.2.getD n 0) (path.2.getD (n + 1) 0)) := Qfg h gv _ _
  have ho := Qaq h (path.2.getD n 0) (path.2.getD (n + 1) 0)
  have hoi : ∀ x ∈ onL p v (path.2.getD n 0) (path.2.getD (n + 1) 0), 0 ≤ x ∧ x < (Q0 p : Int) := fun x hx => h.inClass _ x (K1m.1 hx).1
  have hm := Q6 h.ok.sml
  have hd1 := hd.1
  have w1 := Qdq h.ok.sml (f1, R) hRl (fun t ht => (hR t ht).2) (fun t ht => (hR t ht).1) (((Qr p v path.2)[n]).isEmpty, (Qr p v path.2)[n]) (b2, onL p v (path.2.getD n 0) (path.2.getD (n + 1) 0)) (by simp only; omega) (by simp only; omega) hd.2 hoi
  have w2 := Qa6 h.ok.sml (f2, S) (by simp only; omega) (fun t ht => (hS t ht).2) (fun t ht => (hS t ht).1) (false, (Qr p v path.2)[n]) (false, onL p v (path.2.getD n 0) (path.2.getD (n + 1) 0)) (by simp only; omega) (by simp only; omega) hd.2 hoi
  have w3 := Qa7 p hRS (Qr p v path.2)[n] (onL p v (path.2.getD n 0) (path.2.getD (n + 1) 0))
  have w4 := Qdb p R (Qr p v path.2)[n] (onL p v (path.2.getD n 0) (path.2.getD (n + 1) 0))
  simp only at w1 w2
  rw [← w3] at w2
  have z1 : (0 : Int) ≤ (n : Int) := by omega
  have z2 : (n : Int) < (((Qr p v path.2).map fun l => (l.isEmpty, l)).length : Int) := by simp; omega
  have z3 : (n : Int) < (path.2.length : Int) := by omega
  have z4 : (0 : Int) ≤ ((n + 1 : Nat) : Int) := by omega
  have z5 : ((n + 1 : Nat) : Int) < (path.2.length : Int) := by omega
  simp only [gT z1, gT z2, gT z3, gT z4, gT z5, K7, u1', u2, J0, Q73 _ _ n hn, w1, w2]
  generalize Q2m p R (Qr p v path.2)[n] (onL p v (path.2.getD n 0) (path.2.getD (n + 1) 0)) = m at w4
  rcases w4 with rfl | ⟨j, hj, rfl⟩
  · obtain ⟨x, y, m1, m2⟩ := Qbe h fv gv ((Qr p v path.2)[n]).isEmpty false (Qr p v path.2)[n] hd
    simp only [gT (show (-1 : Int) < 0 by omega), m1, m2, J0]
    exact ⟨x, y, _, -1, rfl, rfl, Q70 h1 _⟩
  · have hj2 : j < S.length := by omega
    have ej : R[j].2 = S[j].2 := by
      have := congrArg (fun l => l[j]?) hRS
      simpa [K1o, hj, hj2] using this
    have gr : R.getD j (true, []) = R[j] := by simp [K1, hj]
    have gs : S.getD j (true, []) = S[j] := by simp [K1, hj2]
    obtain ⟨x, m1⟩ := Q6i h fv (R[j].1, R[j].2) (hR _ (K4 hj)).2 (by rw [(hR _ (K4 hj)).1]; rfl)
    obtain ⟨y, m2⟩ := Qb4 h1 h hsm gv (S[j].1, S[j].2) (hS _ (K4 hj2)).2 (by rw [(hS _ (K4 hj2)).1]; rfl)
    have m1' : F4j p (fv, v) (R[j].1, R[j].2) = _ := m1
    have m2' : F4s p (gv, v) (S[j].1, S[j].2) = _ := m2
    rw [← ej] at m2'
    have hgd := Q1t h1 R[j].2
    have hgl := (Q1i hgd).2.1
    simp only [gF (show ¬ (j : Int) < 0 by omega), gT (show (0 : Int) ≤ (j : Int) by omega), gT (show (j : Int) < (R.length : Int) by omega), gT (show (j : Int) < (S.length : Int) by omega), K7, gr, gs, m1', m2', J0, ← ej]
    exact ⟨x, y, _, j, rfl, rfl, hgd⟩
theorem Qed (G : List (List Int)) (s : List Int) (n : Nat) : ∀ (v : Int) (out : List Int), ∃ t, wayL G s n v out = out ++ t := by
  induction n with
  | zero => intro v out; exact ⟨[], by simp [wayL]⟩
  | succ n ih =>
    intro v out
    by_cases c : s.getD v.toNat 0 > 0
    · obtain ⟨t, e⟩ := ih (Q3n G s v) (out ++ [Q3n G s v])
      exact ⟨Q3n G s v :: t, by rw [wayL, if_pos c, e, Kk]; rfl⟩
    · exact ⟨[], by rw [wayL, if_neg c, K1k]⟩
theorem Qb6 (s : List Int) (l : List Int) : Q1a s l < 0 ∨ Q1a s l ∈ l := by
  have key : ∀ (l m : List Int) (b : Int), (b < 0 ∨ b ∈ m) → (l.foldl (Q2k s) b < 0 ∨ l.foldl (Q2k s) b ∈ m ++ l) := by
    intro l
    induction l with
    | nil => intro m b h; rw [K1k]; exact h
    | cons a l ih =>
      intro m b h
      have := ih (m ++ [a]) (Q2k s b a) (by
        unfold Q2k
        split
        · split
          · exact Or.inr (by simp)
          · split
            · exact Or.inr (by simp)
            · exact h.imp id fun q => Kc _ q
        · exact h.imp id fun q => Kc _ q)
      rw [Kk] at this
      exact this
  exact key l [] (-1) (Or.inl (by decide))
theorem Q4x {G : List (List Int)} {f t l : List Int} (h : Q3l G f t = some l) : ∃ a r, l = a :: r ∧ a ∈ f := by
  unfold Q3l at h
  by_cases c : Q1a (farL (Qs G) t) f < 0
  · rw [if_pos c] at h; cases h
  · rw [if_neg c] at h
    obtain ⟨r, e⟩ := Qed G (farL (Qs G) t) G.length (Q1a (farL (Qs G) t) f) [Q1a (farL (Qs G) t) f]
    exact ⟨Q1a (farL (Qs G) t) f, r, by rw [← Option.some.inj h, e]; rfl, (Qb6 _ _).resolve_left c⟩
/-- a way that begins at a class of the start does not fail at once -/
theorem Qbk {p : DProgram} (v : List Int) {a : Int} (r : List Int) (ha : a ∈ Qu p v p.2.2.1.2) : Q1e (Qr p v (a :: r)) ≥ 0 → ¬ Q1e (Qr p v (a :: r)) < 1 := by
  rw [Qu, Qh, clsL, Kt] at ha
  obtain ⟨s, hs, e⟩ := ha
  intro h0 h1
  have er : Qr p v (a :: r) = ((Q3 p p.2.2.1.2 0 (Q0 p)).filter fun s => v.getD s.toNat 0 == a) :: Qi p v (Qq (((Q3 p p.2.2.1.2 0 (Q0 p)).filter fun s => v.getD s.toNat 0 == a).flatMap (Q9 p))) r := rfl
  have hm : s ∈ (Q3 p p.2.2.1.2 0 (Q0 p)).filter fun s => v.getD s.toNat 0 == a := K1m.2 ⟨hs, by rw [beq_iff_eq]; exact e⟩
  have hz : ((((Q3 p p.2.2.1.2 0 (Q0 p)).filter fun s => v.getD s.toNat 0 == a).length : Int) == 0) = false := by
    have := List.length_pos_of_mem hm
    simp only [beq_eq_false_iff_ne, ne_eq]
    omega
  rw [er] at h0 h1
  unfold Q1e at h0 h1
  rw [List.any_cons, hz, Bool.false_or, List.findIdx_cons, hz, cond_false] at h0 h1
  cases hq : (Qi p v (Qq (((Q3 p p.2.2.1.2 0 (Q0 p)).filter fun s => v.getD s.toNat 0 == a).flatMap (Q9 p))) r).any fun l => (l.length : Int) == 0 with
  | false => rw [hq, cond_false] at h0; omega
  | true => rw [hq, cond_true] at h1; omega
theorem Qan {p : DProgram} (hs : Qa p) (hw : WfP p) (hnl : ∀ c ∈ p.2.2.2.2, c.1.1 = true → c.1.2 = []) (preds : Bool × List (Bool × List DNode)) (hx : ∀ t ∈ preds.2, WfN t.2) (hl : preds.2.length ≤ 1048576) (hpo : Q1l p (preds.2.map Prod.snd) = true) (bad : Bool × List DNode) (hb : WfN bad.2) (hk : Q1 p.1 p.2.1 bad.2 ≠ 0) (t8 : DFinding) (B : Nat) (hB : B ≤ 40) (n : Nat) : ∀ (r : Nat) (fv gv : Bool) (v : List Int), r + n = B → Q7 p v = true →
    (∃ code f g path r' x y v', F4y preds bad (B : Int) p t8 (fv, v) (r : Int) = some (.inl (code, ((f, path), (r', ((x, v'), true))))) ∧ Fab preds bad (B : Int) p t8 0 (true, []) (r : Int) (gv, v) = some (code, ((g, path), (r', (y, v')))) ∧ path.length ≤ 1048576 ∧ Q7 p v' = true) ∨
    (∃ x y v', F4y preds bad (B : Int) p t8 (fv, v) (r : Int) = some (.inr (t8, (x, v'))) ∧ Fab preds bad (B : Int) p t8 0 (true, []) (r : Int) (gv, v) = some (3, ((true, []), ((B : Int), (y, v')))) ∧ Q7 p v' = true) := by
  induction n with
  | zero =>
    intro r fv gv v hr hg
    have h := Q3x hg hs hw
    obtain rfl : r = B := by omega
    rw [F4yE, FabE, gT (by omega), Qej h fv bad hb hk, Q9w h gv bad hb hk]
    simp only [J0]
    cases ht : tryL p v bad.2 with
    | none => exact Or.inl ⟨1, true, true, [], (r : Int), fv, gv, v, rfl, rfl, by simp, hg⟩
    | some l =>
      have hlen := Q58 h bad.2 l ht
      obtain ⟨a, l', el, ha⟩ := Q4x ht
      have h1 : 1 ≤ l.length := by rw [el]; simp
      obtain ⟨b3, e3⟩ := Q6k h fv (false, l) (by simp only; omega)
      have e4 := (Q3z (Qi p v (Q3 p p.2.2.1.2 0 (Q0 p)) l) (fun l => l.isEmpty) b3 (by rw [Qf]; omega)).2
      have e5 := Q9u h gv (false, l) h1 (by simp only; omega)
      simp only [K6, cond_false, e3, J0, e4, e5]
      by_cases c : Q1e (Qi p v (Q3 p p.2.2.1.2 0 (Q0 p)) l) ≥ 0
      · simp only [gF (show ¬ Q1e (Qi p v (Q3 p p.2.2.1.2 0 (Q0 p)) l) < 0 by omega), if_pos c, K6, cond_false, beq_self_eq_true, cond_true, gF (show ¬ (r : Int) < (r : Int) by omega)]
        refine Or.inr ⟨fv, gv, v, ?_, rfl, hg⟩
        rw [up1 r (by omega), F4yE, gF (by omega)]
        rfl
      · obtain ⟨a1, a2, a3, a4, a5⟩ := Q30 h l h1 c
        simp only [gT (show Q1e (Qi p v (Q3 p p.2.2.1.2 0 (Q0 p)) l) < 0 by omega), if_neg c, Bool.not_false, cond_true, Qbw h.ok b3 _ a1 (by rw [Qf]; omega) a2 a3 a4, J0]
        exact Or.inl ⟨2, false, false, _, (r : Int), fv, gv, v, rfl, rfl, by rw [Q4b, Qf]; omega, hg⟩
  | succ n ih =>
    intro r fv gv v hr hg
    have h := Q3x hg hs hw
    rw [F4yE, FabE, gT (by omega), Qej h fv bad hb hk, Q9w h gv bad hb hk]
    simp only [J0]
    cases ht : tryL p v bad.2 with
    | none => exact Or.inl ⟨1, true, true, [], (r : Int), fv, gv, v, rfl, rfl, by simp, hg⟩
    | some l =>
      have hlen := Q58 h bad.2 l ht
      obtain ⟨a, l', el, ha⟩ := Q4x ht
      have h1 : 1 ≤ l.length := by rw [el]; simp
      obtain ⟨b3, e3⟩ := Q6k h fv (false, l) (by simp only; omega)
      have e4 := (Q3z (Qi p v (Q3 p p.2.2.1.2 0 (Q0 p)) l) (fun l => l.isEmpty) b3 (by rw [Qf]; omega)).2
      have e5 := Q9u h gv (false, l) h1 (by simp only; omega)
      simp only [K6, cond_false, e3, J0, e4, e5]
      by_cases c : Q1e (Qi p v (Q3 p p.2.2.1.2 0 (Q0 p)) l) ≥ 0
      · have c2 : ¬ Q1e (Qr p v l) < 1 := by
          have := Qbk (p := p) v l' ha
          rw [← el] at this
          exact this c
        obtain ⟨x, y, A, m, q1, q2, q3⟩ := Qd5 hs hw hnl fv gv v hg h preds hx hl hpo (false, l) (by simp only; omega) c2
        have hne : ((r : Int) == (B : Int)) = false := beqF (by omega)
        simp only [gF (show ¬ Q1e (Qi p v (Q3 p p.2.2.1.2 0 (Q0 p)) l) < 0 by omega), if_pos c, K6, cond_false, hne, gT (show (r : Int) < (B : Int) by omega), q1, q2, J0, J1, up1 r (by omega)]
        exact ih (r + 1) x y A (by omega) q3
      · obtain ⟨a1, a2, a3, a4, a5⟩ := Q30 h l h1 c
        simp only [gT (show Q1e (Qi p v (Q3 p p.2.2.1.2 0 (Q0 p)) l) < 0 by omega), if_neg c, Bool.not_false, cond_true, Qbw h.ok b3 _ a1 (by rw [Qf]; omega) a2 a3 a4, J0]
        exact Or.inl ⟨2, false, false, _, (r : Int), fv, gv, v, rfl, rfl, by rw [Q4b, Qf]; omega, hg⟩
theorem Qa0 (p : DProgram) (hs : Qa p) (hw : WfP p) (preds : Bool × List (Bool × List DNode)) (hx : ∀ t ∈ preds.2, WfN t.2) (bad : Bool × List DNode) (hb : WfN bad.2) (budget : Int) :
    ∃ r, F5b p preds bad budget = some r ∧ F57 p preds bad budget = some r ∧ (r = true → Qp p = true ∧ Q1l p (preds.2.map Prod.snd) = true ∧ (Q1 p.1 p.2.1 bad.2 == 2) = true ∧ 0 ≤ budget ∧ budget ≤ 40) := by
  rw [F5bE, F57E, Qe4 p hs hw, Q45 p hs, J0, J0, Qdl p preds hx, Q98 p preds 0, J0, J0, decide_eq_true (show (preds.2.length : Int) ≥ 0 by omega), K17, Q9m p bad hb, Q2c, J0, J0, Q2n, J0, F5fE]
  cases Qp p with
  | false => exact ⟨false, rfl, rfl, by simp⟩
  | true =>
    cases Q1l p (preds.2.map Prod.snd) with
    | false => exact ⟨false, rfl, rfl, by simp⟩
    | true =>
      cases (Q1 p.1 p.2.1 bad.2 == 2) with
      | false => exact ⟨false, rfl, rfl, by simp⟩
      | true =>
        simp only [cond_true]
        by_cases c1 : budget ≥ 0
        · rw [gT c1, J0]
          by_cases c2 : budget ≤ 40
          · exact ⟨true, by rw [decide_eq_true ⟨c1, c2⟩], by rw [decide_eq_true c2], fun _ => ⟨by trivial, by trivial, by trivial, c1, c2⟩⟩
          · exact ⟨false, by rw [decide_eq_false (by omega)], by rw [decide_eq_false c2], by simp⟩
        · rw [gF c1, J0]
          exact ⟨false, by rw [decide_eq_false (by omega)], rfl, by simp⟩
theorem Qao (p : DProgram) (hs : Qa p) (hw : WfP p) (hnl : ∀ c ∈ p.2.2.2.2, c.1.1 = true → c.1.2 = []) (preds : Bool × List (Bool × List DNode)) (hx : ∀ t ∈ preds.2, WfN t.2) (hl : preds.2.length ≤ 1048576) (bad : Bool × List DNode) (hb : WfN bad.2) (budget : Int) :
    ∃ code f g path r x y v ok, F20 p preds bad budget = some (code, ((f, path), ((r, (x, v)), ok))) ∧ F57 p preds bad budget = some ok ∧ path.length ≤ 1048576 ∧ v.length ≤ 1048576 ∧ (ok = true → Qp p = true ∧ Q7 p v = true ∧ F3i p preds bad budget = some (code, ((g, path), (r, (y, v))))) ∧ (ok = false → code = 0 ∧ path = [] ∧ r = 0 ∧ v = []) := by
  obtain ⟨r, e1, e2, h⟩ := Qa0 p hs hw preds hx bad hb budget
  rw [F20E, e1, e2, J0]
  cases r with
  | false => exact ⟨0, true, true, [], 0, true, true, [], false, rfl, rfl, by simp, by simp, by simp, fun _ => ⟨rfl, rfl, rfl, rfl⟩⟩
  | true =>
    obtain ⟨h1, h2, h3, h4, h5⟩ := h rfl
    have hok := Qfj h1 hs hw
    have hk := Q6h h3
    have hpo := h2
    simp only [Q1l, K5, decide_eq_true_eq, Ky, K10] at hpo
    have t1 : ∀ t ∈ preds.2, WfN t.2 ∧ (Q1 p.1 p.2.1 t.2 == 2) = true := fun t hm => ⟨hx t hm, hpo.2 t.2 (List.mem_map_of_mem hm)⟩
    obtain ⟨c1, e3⟩ := Qfv hok h1 preds hl t1
    have hg := Q7q preds.2 (Q24 p) (Q3a h1)
    have hS := Q3x hg hs hw
    obtain ⟨c2, e4⟩ := Q6i hS c1 bad hb h3
    have hg2 := Q1t hg bad.2
    obtain ⟨b, e5⟩ := Q83 (false, [preds, (false, [bad])]) (by simp only [K14, List.map_nil, List.sum_cons, List.sum_nil, Ks, List.length_nil]; omega) (by simp)
    have e5' : F17 (false, [preds, (false, [bad])]) = some (b, preds.2 ++ [bad]) := by rw [e5]; simp
    obtain ⟨c3, e6⟩ := Qfe hok h1 (b, preds.2 ++ [bad]) (by simp only [Kj, Ks, List.length_nil]; omega) (fun t hm => by
      rcases Kh.1 hm with hm | hm
      · exact t1 t hm
      · rw [K18] at hm
        subst hm
        exact ⟨hb, h3⟩)
    have es : Q1u p (Q24 p) (preds.2 ++ [bad]) = Q3s p (Q1u p (Q24 p) preds.2) bad.2 := by
      rw [Q1u, List.foldl_append]
      rfl
    simp only [es] at e6
    obtain ⟨B, rfl⟩ := Kf h4
    have hn := Qan hs hw hnl preds hx hl h2 bad hb hk (0, ((true, []), (0, (true, [])))) B (by omega) B 0 c2 c3 _ (by omega) hg2
    have ei : ∀ z, Fab preds bad (B : Int) p (0, ((true, []), (0, (true, [])))) 0 (true, []) 0 (c3, Q3s p (Q1u p (Q24 p) preds.2) bad.2) = some z → F3i p preds bad (B : Int) = some (z.1, ((z.2.1.1, z.2.1.2), (z.2.2.1, (z.2.2.2.1, z.2.2.2.2)))) := by
      intro z hz
      rw [F3iE, e5', J0]
      simp only [e6, J0, hz]
    rw [e3]
    simp only [J0, K6, cond_false, e4]
    rcases hn with ⟨code, f, g, path, r', x, y, v', g1, g2, g3, g4⟩ | ⟨x, y, v', g1, g2, g3⟩
    · have g1' : F4y preds bad (B : Int) p (0, ((true, []), (0, (true, [])))) (c2, Q3s p (Q1u p (Q24 p) preds.2) bad.2) 0 = _ := g1
      have hlen := (Q1i g4).2.1
      have hms := Q6 hok.sml
      simp only [g1', J0]
      exact ⟨code, f, g, path, r', x, y, v', true, rfl, by trivial, g3, by omega, fun _ => ⟨h1, g4, ei _ g2⟩, by simp⟩
    · have g1' : F4y preds bad (B : Int) p (0, ((true, []), (0, (true, [])))) (c2, Q3s p (Q1u p (Q24 p) preds.2) bad.2) 0 = _ := g1
      have hlen := (Q1i g3).2.1
      have hms := Q6 hok.sml
      simp only [g1', J0]
      exact ⟨3, true, true, [], (B : Int), x, y, v', true, rfl, by trivial, by simp, by omega, fun _ => ⟨h1, g3, ei _ g2⟩, by simp⟩
/-- what can be reached along arrows -/
inductive Way (g : Int → List Int) : Int → Int → Prop
  | here (a : Int) : Way g a a
  | step {a b c : Int} : b ∈ g a → Way g b c → Way g a c
theorem Way.trans {g : Int → List Int} {a b c : Int} (h : Way g a b) (h2 : Way g b c) : Way g a c := by
  induction h with
  | here a => exact h2
  | step e _ ih => exact Way.step e (ih h2)
theorem Way.arc {g : Int → List Int} {a b : Int} (h : b ∈ g a) : Way g a b := Way.step h (Way.here b)
theorem Way.snoc {g : Int → List Int} {a b c : Int} (h : Way g a b) (h2 : c ∈ g b) : Way g a c := h.trans (Way.arc h2)
/-- what is closed along arrows keeps its ways in -/
theorem Way.closed {g : Int → List Int} {P : Int → Prop} (hc : ∀ x, P x → ∀ y ∈ g x, P y) {a b : Int} (h : Way g a b) : P a → P b := by
  induction h with
  | here a => exact id
  | step e _ ih => exact fun h => ih (hc _ h _ e)
theorem Way.turn {g r : Int → List Int} (hr : ∀ x y, y ∈ r x → x ∈ g y) {a b : Int} (h : Way r a b) : Way g b a := by
  induction h with
  | here a => exact Way.here a
  | step e _ ih => exact ih.trans (Way.arc (hr _ _ e))
/-- each leads to the other -/
def Scc (g : Int → List Int) (a b : Int) : Prop := Way g a b ∧ Way g b a
theorem Scc.refl (g : Int → List Int) (a : Int) : Scc g a a := ⟨Way.here a, Way.here a⟩
theorem Scc.symm {g : Int → List Int} {a b : Int} (h : Scc g a b) : Scc g b a := ⟨h.2, h.1⟩
theorem Scc.trans {g : Int → List Int} {a b c : Int} (h : Scc g a b) (h2 : Scc g b c) : Scc g a c := ⟨h.1.trans h2.1, h2.2.trans h.2⟩
/-- the least of a part -/
def IsL (g : Int → List Int) (x m : Int) : Prop := Scc g x m ∧ ∀ y, Scc g x y → m ≤ y
theorem IsL.one {g : Int → List Int} {x m k : Int} (h : IsL g x m) (h2 : IsL g x k) : m = k := Int.le_antisymm (h.2 k h2.1) (h2.2 m h.1)
theorem IsL.of {g : Int → List Int} {x y m : Int} (h : IsL g x m) (e : Scc g x y) : IsL g y m := ⟨e.symm.trans h.1, fun z hz => h.2 z (e.trans hz)⟩
structure FinI (g : Int → List Int) (G S : Int → Prop) (o : List Int) : Prop where
  see : ∀ x, S x ↔ (x ∈ o ∨ G x)
  dis : ∀ x ∈ o, ¬ G x
  suc : ∀ x ∈ o, ∀ y ∈ g x, S y
  star : ∀ A z B, o = A ++ z :: B → (∀ w, Way g z w → w ∈ A ∨ w = z) ∨ ∃ y, Scc g z y ∧ y ∉ A ∧ y ≠ z
  nod : o.Nodup
theorem FinI.enter {g : Int → List Int} {G S : Int → Prop} {o : List Int} (h : FinI g G S o) {k : Int} (hk : ¬ S k) : FinI g (fun x => G x ∨ x = k) (fun x => S x ∨ x = k) o := by
  refine ⟨fun x => ?_, fun x hx hc => ?_, fun x hx y hy => Or.inl (h.suc x hx y hy), h.star, h.nod⟩
  · rw [h.see]
    constructor
    · rintro ((a | a) | a)
      · exact Or.inl a
      · exact Or.inr (Or.inl a)
      · exact Or.inr (Or.inr a)
    · rintro (a | a | a)
      · exact Or.inl (Or.inl a)
      · exact Or.inl (Or.inr a)
      · exact Or.inr a
  · rcases hc with hc | hc
    · exact h.dis x hx hc
    · subst hc
      exact hk ((h.see x).2 (Or.inl hx))
theorem FinI.leave {g : Int → List Int} {G S : Int → Prop} {o : List Int} {k : Int} (h : FinI g (fun x => G x ∨ x = k) S o) (hg : ¬ G k) (hs : ∀ y ∈ g k, S y) (hw : ∀ x, G x → Way g x k) : FinI g G S (o ++ [k]) := by
  have hko : k ∉ o := fun c => h.dis k c (Or.inr rfl)
  refine ⟨fun x => ?_, fun x hx hc => ?_, fun x hx y hy => ?_, fun A z B e => ?_, ?_⟩
  · rw [h.see, Kh, K18]
    constructor
    · rintro (a | a | a)
      · exact Or.inl (Or.inl a)
      · exact Or.inr a
      · exact Or.inl (Or.inr a)
    · rintro ((a | a) | a)
      · exact Or.inl a
      · exact Or.inr (Or.inr a)
      · exact Or.inr (Or.inl a)
  · rw [Kh, K18] at hx
    rcases hx with hx | hx
    · exact h.dis x hx (Or.inl hc)
    · subst hx
      exact hg hc
  · rw [Kh, K18] at hx
    rcases hx with hx | hx
    · exact h.suc x hx y hy
    · subst hx
      exact hs y hy
  · rcases List.eq_nil_or_concat B with hB | ⟨B2, b, hB⟩
    · subst hB
      obtain ⟨e1, e2⟩ := List.append_inj' e rfl
      simp only [Kq, and_true] at e2
      subst e1 e2
      by_cases c : ∃ y, G y ∧ Way g k y
      · obtain ⟨y, hy, hy2⟩ := c
        refine Or.inr ⟨y, ⟨hy2, hw y hy⟩, fun q => h.dis y q (Or.inl hy), fun q => ?_⟩
        subst q
        exact hg hy
      · refine Or.inl fun w hkw => ?_
        have key : Way g k w ∧ (w ∈ o ∨ w = k) := Way.closed (P := fun x => Way g k x ∧ (x ∈ o ∨ x = k)) (fun x hx y hy => by
          have hky := hx.1.snoc hy
          have hsy : S y := by
            rcases hx.2 with q | q
            · exact h.suc x q y hy
            · subst q
              exact hs y hy
          refine ⟨hky, ?_⟩
          rcases (h.see y).1 hsy with q | q | q
          · exact Or.inl q
          · exact absurd ⟨y, q, hky⟩ c
          · exact Or.inr q) hkw ⟨Way.here k, Or.inr rfl⟩
        exact key.2
    · subst hB
      rw [List.concat_eq_append] at e
      have e' : o ++ [k] = (A ++ z :: B2) ++ [b] := by rw [e]; simp
      obtain ⟨e1, _⟩ := List.append_inj' e' rfl
      exact h.star A z B2 e1
  · rw [K15]
    refine ⟨h.nod, List.pairwise_singleton _ _, fun a ha b hb => ?_⟩
    rw [K18] at hb
    rintro rfl
    subst hb
    exact hko ha
structure ColI (g : Int → List Int) (r : Int) (Base G S : Int → Prop) (o : List Int) : Prop where
  see : ∀ x, S x ↔ (Base x ∨ x ∈ o ∨ G x)
  new : ∀ x, x ∈ o ∨ G x → ¬ Base x ∧ Way g r x
  suc : ∀ x ∈ o, ∀ y ∈ g x, S y
theorem ColI.enter {g : Int → List Int} {r : Int} {Base G S : Int → Prop} {o : List Int} (h : ColI g r Base G S o) {k : Int} (hk : ¬ S k) (hr : Way g r k) : ColI g r Base (fun x => G x ∨ x = k) (fun x => S x ∨ x = k) o := by
  refine ⟨fun x => ?_, fun x hx => ?_, fun x hx y hy => Or.inl (h.suc x hx y hy)⟩
  · rw [h.see]
    constructor
    · rintro ((a | a | a) | a)
      · exact Or.inl a
      · exact Or.inr (Or.inl a)
      · exact Or.inr (Or.inr (Or.inl a))
      · exact Or.inr (Or.inr (Or.inr a))
    · rintro (a | a | a | a)
      · exact Or.inl (Or.inl a)
      · exact Or.inl (Or.inr (Or.inl a))
      · exact Or.inl (Or.inr (Or.inr a))
      · exact Or.inr a
  · rcases hx with a | a | a
    · exact h.new x (Or.inl a)
    · exact h.new x (Or.inr a)
    · subst a
      exact ⟨fun c => hk ((h.see x).2 (Or.inl c)), hr⟩
theorem ColI.leave {g : Int → List Int} {r : Int} {Base G S : Int → Prop} {o : List Int} {k : Int} (h : ColI g r Base (fun x => G x ∨ x = k) S o) (hs : ∀ y ∈ g k, S y) : ColI g r Base G S (o ++ [k]) := by
  refine ⟨fun x => ?_, fun x hx => ?_, fun x hx y hy => ?_⟩
  · rw [h.see, Kh, K18]
    constructor
    · rintro (a | a | a | a)
      · exact Or.inl a
      · exact Or.inr (Or.inl (Or.inl a))
      · exact Or.inr (Or.inr a)
      · exact Or.inr (Or.inl (Or.inr a))
    · rintro (a | (a | a) | a)
      · exact Or.inl a
      · exact Or.inr (Or.inl a)
      · exact Or.inr (Or.inr (Or.inr a))
      · exact Or.inr (Or.inr (Or.inl a))
  · rw [Kh, K18] at hx
    rcases hx with (a | a) | a
    · exact h.new x (Or.inl a)
    · exact h.new x (Or.inr (Or.inr a))
    · exact h.new x (Or.inr (Or.inl a))
  · rw [Kh, K18] at hx
    rcases hx with a | a
    · exact h.suc x a y hy
    · subst a
      exact hs y hy
/-- a function with another value at one place -/
def updI (f : Int → Int) (k v : Int) : Int → Int := fun x => if x = k then v else f x
theorem Qj (f : Int → Int) (k v : Int) : updI f k v k = v := if_pos rfl
theorem Qm (f : Int → Int) {k x : Int} (v : Int) (h : ¬ x = k) : updI f k v x = f x := if_neg h
/-- the walk with a stack: what holds between calls (G: the points that are being visited) -/
structure TarI (g : Int → List Int) (G : Int → Prop) (fo pa : Int → Int) (st : List Int) (vis : Int) : Prop where
  fr : ∀ x, 0 ≤ fo x ∧ fo x ≤ vis
  see : ∀ x, fo x ≠ 0 ↔ (0 ≤ pa x ∨ x ∈ st)
  dis : ∀ x ∈ st, pa x < 0
  nn : ∀ x ∈ st, 0 ≤ x
  inc : st.Pairwise fun a b => fo a < fo b
  gs : ∀ x, G x → x ∈ st
  cl : ∀ x, 0 ≤ pa x → ∀ y ∈ g x, 0 ≤ pa y
  val : ∀ x, 0 ≤ pa x → IsL g x (pa x)
  blk : ∀ x ∈ st, ¬ G x → (∀ y ∈ g x, fo y ≠ 0) ∧ ∃ y ∈ st, fo y < fo x ∧ Way g x y
theorem TarI.enter {g : Int → List Int} {G : Int → Prop} {fo pa : Int → Int} {st : List Int} {vis v : Int} (h : TarI g G fo pa st vis) (hv : fo v = 0) (hv0 : 0 ≤ v) : TarI g (fun x => G x ∨ x = v) (updI fo v (vis + 1)) pa (st ++ [v]) (vis + 1) := by
  have hvis := h.fr v
  have hns : v ∉ st := fun c => (h.see v).2 (Or.inr c) hv
  have hne : ∀ x ∈ st, ¬ x = v := fun x hx e => by
    subst e
    exact hns hx
  have hup : ∀ y, fo y ≠ 0 → updI fo v (vis + 1) y ≠ 0 := fun y hy => by
    by_cases c : y = v
    · subst c
      exact absurd hv hy
    · rwa [Qm _ _ c]
  refine ⟨fun x => ?_, fun x => ?_, fun x hx => ?_, fun x hx => ?_, ?_, fun x hx => ?_, h.cl, h.val, fun x hx hg => ?_⟩
  · by_cases c : x = v
    · subst c
      rw [Qj]
      omega
    · rw [Qm _ _ c]
      have := h.fr x
      omega
  · by_cases c : x = v
    · subst c
      rw [Qj]
      exact ⟨fun _ => Or.inr (by simp), fun _ => by omega⟩
    · rw [Qm _ _ c, h.see, Kh, K18]
      constructor
      · rintro (a | a)
        · exact Or.inl a
        · exact Or.inr (Or.inl a)
      · rintro (a | a | a)
        · exact Or.inl a
        · exact Or.inr a
        · exact absurd a c
  · rw [Kh, K18] at hx
    rcases hx with hx | hx
    · exact h.dis x hx
    · subst hx
      rcases Int.lt_or_le (pa x) 0 with c | c
      · exact c
      · exact absurd hv ((h.see x).2 (Or.inl c))
  · rw [Kh, K18] at hx
    rcases hx with hx | hx
    · exact h.nn x hx
    · omega
  · rw [List.pairwise_append]
    refine ⟨h.inc.imp_of_mem fun {a b} ha hb hab => ?_, List.pairwise_singleton _ _, fun a ha b hb => ?_⟩
    · rw [Qm _ _ (hne a ha), Qm _ _ (hne b hb)]
      exact hab
    · rw [K18] at hb
      subst hb
      rw [Qm _ _ (hne a ha), Qj]
      have := h.fr a
      omega
  · rw [Kh, K18]
    rcases hx with hx | hx
    · exact Or.inl (h.gs x hx)
    · exact Or.inr hx
  · rw [Kh, K18] at hx
    rcases hx with hx | hx
    · obtain ⟨h1, y, h2, h3, h4⟩ := h.blk x hx (fun c => hg (Or.inl c))
      refine ⟨fun z hz => hup z (h1 z hz), y, Kc _ h2, ?_, h4⟩
      rw [Qm _ _ (hne y h2), Qm _ _ (hne x hx)]
      exact h3
    · exact absurd (Or.inr hx) hg
/-- within a visit: some arrows are done -/
structure TarL (g : Int → List Int) (G : Int → Prop) (v : Int) (S0 : List Int) (fo0 lo0 : Int → Int) (vis0 : Int) (fo lo pa : Int → Int) (st : List Int) (vis : Int) (done : List Int) : Prop where
  inv : TarI g (fun x => G x ∨ x = v) fo pa st vis
  gs0 : ∀ x, G x → x ∈ S0
  stk : ∃ M, st = S0 ++ v :: M ∧ ∀ x ∈ M, Way g v x ∧ ∀ y ∈ g x, y ∈ S0 → lo v ≤ fo y
  keep : ∀ x, fo0 x ≠ 0 → fo x = fo0 x ∧ lo x = lo0 x
  fv : vis0 < fo v
  vs : vis0 ≤ vis
  lv : lo v ≤ fo v
  low : ∃ u ∈ st, fo u = lo v ∧ Way g v u
  dn : ∀ w ∈ done, fo w ≠ 0 ∧ (w ∈ S0 → lo v ≤ fo w)
/-- J93 a visit -/
structure TarP (g : Int → List Int) (G : Int → Prop) (v : Int) (S0 : List Int) (fo0 lo0 : Int → Int) (vis0 : Int) (fo lo pa : Int → Int) (st : List Int) (vis : Int) : Prop where
  inv : TarI g G fo pa st vis
  keep : ∀ x, fo0 x ≠ 0 → fo x = fo0 x ∧ lo x = lo0 x
  fv : vis0 < fo v
  vs : vis0 ≤ vis
  out : ∃ N, st = S0 ++ N ∧ (∀ x ∈ N, Way g v x ∧ ∀ y ∈ g x, y ∈ S0 → lo v ≤ fo y) ∧ ((N = [] ∧ fo v ≤ lo v) ∨ ∃ u ∈ st, fo u = lo v ∧ Way g v u)
theorem TarL.start {g : Int → List Int} {G : Int → Prop} {fo lo pa : Int → Int} {st : List Int} {vis v : Int} (h : TarI g G fo pa st vis) (hv : fo v = 0) (hv0 : 0 ≤ v) : TarL g G v st fo lo vis (updI fo v (vis + 1)) (updI lo v (vis + 1)) pa (st ++ [v]) (vis + 1) [] := by
  refine ⟨h.enter hv hv0, h.gs, ⟨[], rfl, fun x hx => by cases hx⟩, fun x hx => ?_, ?_, by omega, ?_, ⟨v, by simp, ?_, Way.here v⟩, fun w hw => by cases hw⟩
  · have : ¬ x = v := fun e => hx (by rw [e]; exact hv)
    exact ⟨Qm _ _ this, Qm _ _ this⟩
  · rw [Qj]; omega
  · rw [Qj, Qj]; omega
  · rw [Qj, Qj]
theorem TarL.skip {g : Int → List Int} {G : Int → Prop} {fo0 lo0 fo lo pa : Int → Int} {S0 st done : List Int} {vis0 vis v w : Int} (h : TarL g G v S0 fo0 lo0 vis0 fo lo pa st vis done) (hp : 0 ≤ pa w) : TarL g G v S0 fo0 lo0 vis0 fo lo pa st vis (w :: done) := by
  refine { h with dn := fun x hx => ?_ }
  rcases Kd.1 hx with rfl | hx
  · refine ⟨(h.inv.see x).2 (Or.inl hp), fun hs => ?_⟩
    obtain ⟨M, e, _⟩ := h.stk
    have := h.inv.dis x (by rw [e]; exact Kc _ hs)
    omega
  · exact h.dn x hx
theorem TarL.seen {g : Int → List Int} {G : Int → Prop} {fo0 lo0 fo lo pa : Int → Int} {S0 st done : List Int} {vis0 vis v w : Int} (h : TarL g G v S0 fo0 lo0 vis0 fo lo pa st vis done) (hw : w ∈ g v) (h1 : fo w ≠ 0) (hp : pa w < 0) (hv0 : fo0 v = 0) :
    TarL g G v S0 fo0 lo0 vis0 fo (updI lo v (min (lo v) (fo w))) pa st vis (w :: done) := by
  obtain ⟨M, e, hM⟩ := h.stk
  have hlv := h.lv
  refine ⟨h.inv, h.gs0, ⟨M, e, fun x hx => ⟨(hM x hx).1, fun y hy hs => ?_⟩⟩, fun x hx => ?_, h.fv, h.vs, ?_, ?_, fun x hx => ?_⟩
  · rw [Qj]
    have := (hM x hx).2 y hy hs
    omega
  · have : ¬ x = v := fun e => hx (by rw [e]; exact hv0)
    rw [Qm _ _ this]
    exact h.keep x hx
  · rw [Qj]
    omega
  · rw [Qj]
    rcases Int.le_total (lo v) (fo w) with c | c
    · obtain ⟨u, h2, h3, h4⟩ := h.low
      exact ⟨u, h2, by omega, h4⟩
    · refine ⟨w, ?_, by omega, Way.arc hw⟩
      rcases (h.inv.see w).1 h1 with q | q
      · omega
      · exact q
  · rw [Qj]
    rcases Kd.1 hx with rfl | hx
    · exact ⟨h1, fun _ => by omega⟩
    · have := h.dn x hx
      exact ⟨this.1, fun q => by have := this.2 q; omega⟩
theorem TarL.call {g : Int → List Int} {G : Int → Prop} {fo0 lo0 fo lo pa fo2 lo2 pa2 : Int → Int} {S0 st done st2 : List Int} {vis0 vis vis2 v w : Int} (h : TarL g G v S0 fo0 lo0 vis0 fo lo pa st vis done) (hw : w ∈ g v) (h1 : fo w = 0) (hv0 : fo0 v = 0)
    (p : TarP g (fun x => G x ∨ x = v) w st fo lo vis fo2 lo2 pa2 st2 vis2) : TarL g G v S0 fo0 lo0 vis0 fo2 (updI lo2 v (min (lo2 v) (lo2 w))) pa2 st2 vis2 (w :: done) := by
  obtain ⟨M, e, hM⟩ := h.stk
  obtain ⟨N, e2, hN, hout⟩ := p.out
  have hlv := h.lv
  have hfv := h.fv
  have hvs := h.vs
  have hvs2 := p.vs
  have hpfv := p.fv
  have hvr := h.inv.fr v
  have hvv : v ∈ st := by rw [e]; simp
  have hfv0 : fo v ≠ 0 := (h.inv.see v).2 (Or.inr hvv)
  obtain ⟨k1, k2⟩ := p.keep v hfv0
  have kst : ∀ x ∈ st, fo2 x = fo x ∧ lo2 x = lo x := fun x hx => p.keep x ((h.inv.see x).2 (Or.inr hx))
  have hS : ∀ y, y ∈ S0 → y ∈ st := fun y hy => by rw [e]; exact Kc _ hy
  refine ⟨p.inv, h.gs0, ⟨M ++ N, by rw [e2, e]; simp, fun x hx => ?_⟩, fun x hx => ?_, by omega, by omega, ?_, ?_, fun x hx => ?_⟩
  · rw [Qj, k2]
    rcases Kh.1 hx with hx | hx
    · refine ⟨(hM x hx).1, fun y hy hs => ?_⟩
      have a := (hM x hx).2 y hy hs
      have b := (kst y (hS y hs)).1
      omega
    · refine ⟨Way.step hw (hN x hx).1, fun y hy hs => ?_⟩
      have a := (hN x hx).2 y hy (hS y hs)
      omega
  · have hne : ¬ x = v := fun e => hx (by rw [e]; exact hv0)
    obtain ⟨a1, a2⟩ := h.keep x hx
    obtain ⟨b1, b2⟩ := p.keep x (by rw [a1]; exact hx)
    rw [Qm _ _ hne, b1, b2, a1, a2]
    exact ⟨rfl, rfl⟩
  · rw [Qj, k2, k1]
    omega
  · rw [Qj, k2]
    have old : ∃ u ∈ st2, fo2 u = lo v ∧ Way g v u := by
      obtain ⟨u, h2, h3, h4⟩ := h.low
      exact ⟨u, by rw [e2]; exact Kc _ h2, by rw [(kst u h2).1]; exact h3, h4⟩
    rcases Int.le_total (lo v) (lo2 w) with c | c
    · rw [Int.min_eq_left c]
      exact old
    · rw [Int.min_eq_right c]
      rcases hout with ⟨_, q⟩ | ⟨u, q1, q2, q3⟩
      · have : lo2 w = lo v := by omega
        rw [this]
        exact old
      · exact ⟨u, q1, q2, Way.step hw q3⟩
  · rw [Qj, k2]
    rcases Kd.1 hx with rfl | hx
    · refine ⟨by omega, fun hs => ?_⟩
      exact absurd h1 ((h.inv.see x).2 (Or.inr (hS x hs)))
    · obtain ⟨a1, a2⟩ := h.dn x hx
      obtain ⟨b1, b2⟩ := p.keep x a1
      rw [b1]
      exact ⟨a1, fun q => by have := a2 q; omega⟩
/-- a visit ends, and its point stays on the stack -/
theorem TarL.stay {g : Int → List Int} {G : Int → Prop} {fo0 lo0 fo lo pa : Int → Int} {S0 st done : List Int} {vis0 vis v : Int} (h : TarL g G v S0 fo0 lo0 vis0 fo lo pa st vis done) (hd : ∀ y ∈ g v, y ∈ done) (hl : lo v < fo v) : TarP g G v S0 fo0 lo0 vis0 fo lo pa st vis := by
  obtain ⟨M, e, hM⟩ := h.stk
  refine ⟨{ h.inv with gs := fun x hx => h.inv.gs x (Or.inl hx), blk := fun x hx hg => ?_ }, h.keep, h.fv, h.vs, ⟨v :: M, e, fun x hx => ?_, Or.inr h.low⟩⟩
  · by_cases c : x = v
    · subst c
      obtain ⟨u, h2, h3, h4⟩ := h.low
      exact ⟨fun y hy => (h.dn y (hd y hy)).1, u, h2, by omega, h4⟩
    · exact h.inv.blk x hx (fun q => q.elim hg c)
  · rcases Kd.1 hx with rfl | hx
    · exact ⟨Way.here x, fun y hy hs => (h.dn y (hd y hy)).2 hs⟩
    · exact hM x hx
/-- a visit ends, and its part is taken off the stack -/
theorem TarL.pop {g : Int → List Int} {G : Int → Prop} {fo0 lo0 fo lo pa : Int → Int} {S0 M done : List Int} {vis0 vis v m : Int} (h : TarL g G v S0 fo0 lo0 vis0 fo lo pa (S0 ++ v :: M) vis done) (hd : ∀ y ∈ g v, y ∈ done) (hl : fo v ≤ lo v) (hm : m ∈ v :: M) (hle : ∀ x ∈ v :: M, m ≤ x)
    {pa2 : Int → Int} (hp1 : ∀ x ∈ v :: M, pa2 x = m) (hp2 : ∀ x, x ∉ v :: M → pa2 x = pa x) : TarP g G v S0 fo0 lo0 vis0 fo lo pa2 S0 vis := by
  obtain ⟨M2, e, hM⟩ := h.stk
  obtain rfl : M = M2 := by simpa using e
  obtain ⟨i1, i2, i3⟩ := List.pairwise_append.1 h.inv.inc
  rw [List.pairwise_cons] at i2
  have hvN : ∀ x ∈ v :: M, fo v ≤ fo x := fun x hx => by
    rcases Kd.1 hx with rfl | hx
    · exact Int.le_refl _
    · exact Int.le_of_lt (i2.1 x hx)
  have dj : ∀ x ∈ S0, x ∉ v :: M := fun x hx c => by
    have := i3 x hx x c
    omega
  have mem : ∀ x ∈ v :: M, x ∈ S0 ++ v :: M := fun x hx => Kn _ hx
  have edge : ∀ x ∈ v :: M, ∀ y ∈ g x, 0 ≤ pa y ∨ y ∈ v :: M := by
    intro x hx y hy
    have hfy : fo y ≠ 0 ∧ (y ∈ S0 → lo v ≤ fo y) := by
      rcases Kd.1 hx with rfl | hx2
      · exact h.dn y (hd y hy)
      · have ng : ¬ (G x ∨ x = v) := by
          rintro (c | c)
          · exact dj x (h.gs0 x c) hx
          · subst c
            have := i2.1 x hx2
            omega
        exact ⟨(h.inv.blk x (mem x hx) ng).1 y hy, (hM x hx2).2 y hy⟩
    rcases (h.inv.see y).1 hfy.1 with c | c
    · exact Or.inl c
    · rcases Kh.1 c with c | c
      · have a := hfy.2 c
        have b := i3 y c v (by simp)
        omega
      · exact Or.inr c
  have clo : ∀ x, Way g v x → 0 ≤ pa x ∨ x ∈ v :: M := fun x hw => Way.closed (P := fun x => 0 ≤ pa x ∨ x ∈ v :: M) (fun x hx y hy => by
    rcases hx with hx | hx
    · exact Or.inl (h.inv.cl x hx y hy)
    · exact edge x hx y hy) hw (Or.inr (by simp))
  have down : ∀ x ∈ v :: M, Way g v x := fun x hx => by
    rcases Kd.1 hx with rfl | hx
    · exact Way.here x
    · exact (hM x hx).1
  have up : ∀ (n : Nat) (x : Int), (fo x).toNat = n → x ∈ v :: M → Way g x v := by
    intro n
    induction n using Nat.strongRecOn with
    | _ n ih =>
      intro x hn hx
      by_cases c : x = v
      · subst c
        exact Way.here x
      · have ng : ¬ (G x ∨ x = v) := by
          rintro (q | q)
          · exact dj x (h.gs0 x q) hx
          · exact c q
        obtain ⟨_, y, h2, h3, h4⟩ := h.inv.blk x (mem x hx) ng
        have hy : y ∈ v :: M := by
          rcases clo y ((down x hx).trans h4) with q | q
          · have := h.inv.dis y h2
            omega
          · exact q
        have f1 := h.inv.fr y
        have f2 := h.inv.fr x
        exact h4.trans (ih _ (by omega) y rfl hy)
  have scc1 : ∀ x ∈ v :: M, Scc g v x := fun x hx => ⟨down x hx, up _ x rfl hx⟩
  have scc2 : ∀ x, Scc g v x → x ∈ v :: M := fun x hs => by
    rcases clo x hs.1 with q | q
    · have a : 0 ≤ pa v := Way.closed (P := fun x => 0 ≤ pa x) (fun x hx y hy => h.inv.cl x hx y hy) hs.2 q
      have b := h.inv.dis v (mem v (by simp))
      omega
    · exact q
  have m0 : 0 ≤ m := h.inv.nn m (mem m hm)
  have isl : ∀ x ∈ v :: M, IsL g x m := fun x hx => ⟨(scc1 x hx).symm.trans (scc1 m hm), fun y hy => hle y (scc2 y ((scc1 x hx).trans hy))⟩
  have pos : ∀ x, 0 ≤ pa x → 0 ≤ pa2 x := fun x hx => by
    by_cases c : x ∈ v :: M
    · rw [hp1 x c]; exact m0
    · rw [hp2 x c]; exact hx
  refine ⟨⟨h.inv.fr, fun x => ?_, fun x hx => ?_, fun x hx => h.inv.nn x (Kc _ hx), i1, h.gs0, fun x hx y hy => ?_, fun x hx => ?_, fun x hx hg => ?_⟩, h.keep, h.fv, h.vs, ⟨[], by simp, (fun x hx => by cases hx), Or.inl ⟨rfl, hl⟩⟩⟩
  · rw [h.inv.see x, Kh]
    by_cases c : x ∈ v :: M
    · rw [hp1 x c]
      exact ⟨fun _ => Or.inl m0, fun _ => Or.inr (Or.inr c)⟩
    · rw [hp2 x c]
      constructor
      · rintro (a | a | a)
        · exact Or.inl a
        · exact Or.inr a
        · exact absurd a c
      · rintro (a | a)
        · exact Or.inl a
        · exact Or.inr (Or.inl a)
  · rw [hp2 x (dj x hx)]
    exact h.inv.dis x (Kc _ hx)
  · by_cases c : x ∈ v :: M
    · rcases edge x c y hy with q | q
      · exact pos y q
      · rw [hp1 y q]; exact m0
    · rw [hp2 x c] at hx
      exact pos y (h.inv.cl x hx y hy)
  · by_cases c : x ∈ v :: M
    · rw [hp1 x c]
      exact isl x c
    · rw [hp2 x c] at hx ⊢
      exact h.inv.val x hx
  · have ng : ¬ (G x ∨ x = v) := by
      rintro (q | q)
      · exact hg q
      · subst q
        exact dj x hx (by simp)
    obtain ⟨b1, y, b2, b3, b4⟩ := h.inv.blk x (Kc _ hx) ng
    refine ⟨b1, y, ?_, b3, b4⟩
    rcases Kh.1 b2 with q | q
    · exact q
    · have := i3 x hx y q
      omega
/-- nothing is left on the stack where nothing is being visited -/
theorem TarI.empty {g : Int → List Int} {fo pa : Int → Int} {st : List Int} {vis : Int} (h : TarI g (fun _ => False) fo pa st vis) : st = [] := by
  cases st with
  | nil => rfl
  | cons a l =>
    obtain ⟨_, y, h2, h3, _⟩ := h.blk a (by simp) (fun c => c)
    have := (List.pairwise_cons.1 h.inc).1
    rcases Kd.1 h2 with rfl | h2
    · omega
    · have := this y h2
      omega
theorem Q78 (cs v : Bool × List Int) (hc : cs.2.length ≤ 1048576) (hv : v.2.length ≤ 100000) (d : Nat) : ∀ (i : Nat) (o : List Int), i + d = v.2.length → o.length ≤ i →
    F70 (false, o) cs v (v.2.length : Int) (i : Int) = some (false, o ++ ((List.range' i d).filter fun i => cs.2.any fun c => c == v.2.getD i 0).map Int.ofNat) := by
  have hlim := J7
  induction d with
  | zero =>
    intro i o hi ho
    rw [F70E, gF (by omega)]
    simp
  | succ d ih =>
    intro i o hi ho
    have hlt : i < v.2.length := by omega
    rw [F70E, gT (by omega), gT (by omega), gT (by omega), K7, Q33 cs _ hc, J0, up1 i (by omega), K1a, K1l, Q9a]
    cases hh : cs.2.any fun c => c == v.2.getD i 0 with
    | true =>
      rw [cond_true, gT (by simp; omega), J1, K1r, ih (i + 1) (o ++ [(i : Int)]) (by omega) (by simp; omega)]
      simp
    | false =>
      rw [cond_false, J1, ih (i + 1) o (by omega) (by omega)]
      simp
theorem Q6f (p : DProgram) (hs : Qa p) (hw : WfP p) (hnl : ∀ c ∈ p.2.2.2.2, c.1.1 = true → c.1.2 = []) (preds : Bool × List (Bool × List DNode)) (hx : ∀ t ∈ preds.2, WfN t.2) (hl : preds.2.length ≤ 1048576) (bad : Bool × List DNode) (hb : WfN bad.2) (budget : Int) :
    ∃ f g a ok, F7b p preds bad budget = some ((f, a), ok) ∧ F1x p preds bad budget = some ((g, a), ok) ∧ a.length ≤ 1048576 := by
  obtain ⟨code, f, g, path, r, x, y, v, ok, e1, e2, hA, hV, h1, h2⟩ := Qao p hs hw hnl preds hx hl bad hb budget
  rw [F7bE, F1xE, e1, e2, J0, J0]
  cases ok with
  | false =>
    exact ⟨true, true, [], false, rfl, rfl, by simp⟩
  | true =>
    obtain ⟨i1, i2, i4⟩ := h1 rfl
    simp only [K6, cond_false, i4, J0]
    cases hc : (code != 1) with
    | true => exact ⟨true, true, [], false, rfl, rfl, by simp⟩
    | false =>
      have h := Q3x i2 hs hw
      have hlen := h.len
      have hms := Q6 h.ok.sml
      obtain ⟨r1, r2⟩ := Qci h
      obtain ⟨b1, e3⟩ := Qdm h x
      obtain ⟨b2, e4⟩ := Qbv (x, v) (b1, Q2r p v) (by simp only; omega) (by simp only; omega)
      have e5 := Qa2 h y
      have e6 := Q78 (false, Q2r p v) (y, v) (by simp only; omega) (by simp only; omega) v.length 0 [] (by simp) (by simp)
      have e6' : F70 (false, []) (false, Q2r p v) (y, v) (v.length : Int) 0 = _ := e6
      have eo : ofL v (Q2r p v) = ((List.range' 0 v.length).filter fun i => (Q2r p v).any fun c => c == v.getD i 0).map Int.ofNat := by rw [ofL, K1e]
      have hol : (ofL v (Q2r p v)).length ≤ v.length := by
        rw [ofL, Ky]
        refine Kx (K1q _ _) ?_
        simp
      rw [cond_false, cond_false]
      simp only [e3, e4, e5, e6', J0]
      exact ⟨b2, false, ofL v (Q2r p v), true, rfl, by rw [eo, Kv], by omega⟩
theorem Q2q (x0 : DProgram) (x1 : Bool × List (Bool × List DNode)) (x2 : Bool × List DNode) (x3 : Int) (w0 : WfD tyProgram x0) (w1 : WfD (.sl (.sl tyNode)) x1) (w2 : WfD (.sl tyNode) x2) (w3 : WfD (.int .i64) x3) : F9a x0 x1 x2 x3 = some true := by
  obtain ⟨v1, v2, v3⟩ := Qe3 w1
  rw [F9aE]
  obtain ⟨r0, e0, h0⟩ := Qcs x0 w0 1048576 (by omega)
  rw [e0, J0]
  rcases h0 with h0 | ⟨h0, h1, hs⟩
  · rw [gT h0]
  obtain ⟨r1, e9, h9⟩ := Qe6 x1 r0 (by omega) v1 v2
  rw [gF (by omega), e9, J0]
  rcases h9 with h9 | ⟨h9, h8, hs1⟩
  · rw [gT h9]
  have hs2 := Qb3 hs1
  rw [gF (by omega), Q55 x2 _ (by omega) w2.2.1, J0]
  rcases Int.lt_or_le r1 (x2.2.length : Int) with c2 | c2
  · rw [if_neg (by omega), gT (by omega)]
  rw [if_pos c2]
  rw [gF (by omega), Qcu x0 hs, J0, Qe8 x1 hs1, J0, Q56 x2 (by omega), J0]
  obtain ⟨f, g, a, ok, e1, e2, hA⟩ := Q6f (Q5 x0) (Qer hs) (Qfk (Qcz w0)) (Qa8 x0) (false, Q2z x1.2) v3 hs2.1 (false, x2.2) (show WfN x2.2 from Q2j w2) x3
  have e1' : F7b ((Q5 x0).1, ((Q5 x0).2.1, (((Q5 x0).2.2.1.1, (Q5 x0).2.2.1.2), ((Q5 x0).2.2.2.1, (Q5 x0).2.2.2.2)))) (false, Q2z x1.2) (false, x2.2) x3 = _ := e1
  have e2' : F1x ((Q5 x0).1, ((Q5 x0).2.1, (((Q5 x0).2.2.1.1, (Q5 x0).2.2.1.2), ((Q5 x0).2.2.2.1, (Q5 x0).2.2.2.2)))) (false, Q2z x1.2) (false, x2.2) x3 = _ := e2
  have e3 : F5h ((Q5 x0).1, ((Q5 x0).2.1, (((Q5 x0).2.2.1.1, (Q5 x0).2.2.1.2), ((Q5 x0).2.2.2.1, (Q5 x0).2.2.2.2)))) ((Q5 x0).1, ((Q5 x0).2.1, (((Q5 x0).2.2.1.1, (Q5 x0).2.2.1.2), ((Q5 x0).2.2.2.1, (Q5 x0).2.2.2.2)))) = some true := Q5h _ (Qer hs)
  obtain ⟨y', z, k, e4, e5, e6⟩ := Q8m (Q5 x0) (Qer hs) 1 (by omega) (by omega)
  have hz2 := Q4m hs2
  have q1 := Q89 g f a hA
  have q2 := Q6b false false _ _ hs2 rfl
  have q3 := Q1h false false x2.2 (by omega)
  have m2 := Qam false (Q2z x1.2) k hs2 (by omega) (by omega)
  have m3 := Q2o (false, x2.2) (k + 2 * Q21 (Q2z x1.2)) (by simp only; omega) (by omega) (by simp only; omega)
  have m4 := Qds g a 1 hA (by omega) (by omega)
  have k1 := Qde g a.length 1 hA (by omega) (by omega)
  simp only [e1', e2', J0, q1, q2, q3, beq_self_eq_true, bne_self_eq_false, K6, cond_false, e3, e4, m2, m3, m4, k1, gF (show ¬ k + 2 * (Q21 (Q2z x1.2) : Int) + 2 * (x2.2.length : Int) < 0 by omega), gF (show ¬ (1 + (a.length : Int)) < 0 by omega)]

end Go.Proofs.YtkfnlnohgfpipaaGreat.R
