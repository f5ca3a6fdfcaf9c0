/- An evaluator over the code of the given program, and its soundness: part 5. -/
import Derived.Test.YtnnoohfloniinaaGreatRfD
import Derived.Sort.Grow
import Derived.Deep.Draws
import Derived.WalkKit
import Derived.ProofKit
import Derived.OpenShut
import Derived.ShutString
import Derived.ChangeOld
import Derived.ChangeArms
import Derived.Below
import Derived.Carry
import Derived.SizedLaws
import Derived.Laws.Externs
import Derived.Laws.BitsLemmas
set_option linter.all false
namespace Go.Rf
open Go.ChangeShapes Go.WideShapes Go.ChangeAt Go.RowKit

/-- what is known of data that lies in memory -/
def WfD : (t : Ty) → Den t → Prop
  | .int k, n => k.min ≤ n ∧ n ≤ k.max
  | .bool, _ => True
  | .nil, _ => True
  | .one a, x => WfD a x
  | .pair a b, x => WfD a x.1 ∧ WfD b x.2
  | .sl t, x => (x.1 = true → x.2 = []) ∧ x.2.length ≤ big ∧ ∀ e ∈ x.2, WfD t e
  | .fn _ _, _ => True
  | .hsl _, _ => True

theorem Rep_WfD {w : World} {S : Nat → Prop} : ∀ (t : Ty) (x : Den t) (cs : List Value), Rep w S false t x cs → WfD t x := by
  intro t
  induction t with
  | int k => intro x cs h; simp only [Rep] at h; exact h.2
  | bool => intro x cs h; trivial
  | nil => intro x cs h; trivial
  | one a ih => intro x cs h; exact ih x cs h
  | pair a b iha ihb =>
    intro x cs h
    simp only [Rep] at h
    obtain ⟨c, d, _, h1, h2⟩ := h
    exact ⟨iha _ _ h1, ihb _ _ h2⟩
  | sl t ih =>
    intro x cs h
    simp only [Rep] at h
    simp only [WfD]
    rcases h with ⟨h1, h2, _⟩ | ⟨h1, b, o, cap, _, _, h2, h3⟩ | ⟨h1, h2, _⟩
    · exact ⟨fun _ => h2, by simp [h2], by simp [h2]⟩
    · refine ⟨fun h => (by rw [h1] at h; cases h), h2, fun e he => ?_⟩
      obtain ⟨i, hi⟩ := List.getElem?_of_mem he
      obtain ⟨_, c, _, _, hc⟩ := h3 i e hi
      exact ih _ _ hc
    · exact ⟨fun _ => h2, by simp [h2], by simp [h2]⟩
  | fn f c ih => intro x cs h; trivial
  | hsl t ih => intro x cs h; trivial

theorem fpath_nodes : ∀ (t : Ty) (n i : Nat) (q : List Step) (u : Ty), fpath t n i = some (q, u) → nodes u < nodes t := by
  intro t
  induction t with
  | one a ih =>
    intro n i q u h
    match n, i, h with
    | 1, 0, h =>
      simp [fpath] at h
      obtain ⟨_, rfl⟩ := h
      simp [nodes]
  | pair a b iha ihb =>
    intro n i q u h
    match n, i, h with
    | n + 2, 0, h =>
      simp [fpath] at h
      obtain ⟨_, rfl⟩ := h
      simp [nodes]; omega
    | 2, 1, h =>
      simp [fpath] at h
      obtain ⟨_, rfl⟩ := h
      simp [nodes]; omega
    | n + 3, i + 1, h =>
      simp only [fpath, Option.map_eq_some_iff, Prod.mk.injEq] at h
      obtain ⟨⟨q', u'⟩, h1, rfl, rfl⟩ := h
      have := ihb _ _ _ _ h1
      simp only [nodes]; omega
    | 0, _, h => simp [fpath] at h
    | 1, _, h => simp [fpath] at h
    | 2, i + 2, h => simp [fpath] at h
  | _ => intro n i q u h; simp [fpath] at h

theorem fields_Rep {w : World} {S : Nat → Prop} : ∀ (t : Ty) (n : Nat) (cs : List Value), n ≠ 0 → isAgg t = true → (∀ i, i < n → ∃ q u, fpath t n i = some (q, u) ∧ ∃ y : Den u, Rep w S false u y ((cs.drop (pathOff q)).take (size u))) → cs.length = size t → ∃ y : Den t, Rep w S false t y cs := by
  intro t
  induction t with
  | one a ih =>
    intro n cs hn _ h hl
    obtain ⟨q, u, h1, y, h2⟩ := h 0 (by omega)
    match n, h1 with
    | 1, h1 =>
      simp [fpath] at h1
      obtain ⟨rfl, rfl⟩ := h1
      refine ⟨y, ?_⟩
      simp only [Rep]
      have : (cs.drop (pathOff [Step.one])).take (size a) = cs := by
        simp only [size] at hl
        simp [pathOff, Step.off, ← hl]
      rw [this] at h2
      exact h2
  | pair a b iha ihb =>
    intro n cs hn _ h hl
    simp only [size] at hl
    have h0 := h 0 (by omega)
    obtain ⟨q, u, h1, y, h2⟩ := h0
    match n, h1 with
    | n + 2, h1 =>
      simp [fpath] at h1
      obtain ⟨rfl, rfl⟩ := h1
      have e1 : (cs.drop (pathOff [Step.fst])).take (size a) = cs.take (size a) := by simp [pathOff, Step.off]
      rw [e1] at h2
      have hb : ∃ z : Den b, Rep w S false b z (cs.drop (size a)) := by
        cases n with
        | zero =>
          obtain ⟨q, u, h3, z, h4⟩ := h 1 (by omega)
          simp [fpath] at h3
          obtain ⟨rfl, rfl⟩ := h3
          refine ⟨z, ?_⟩
          have : (cs.drop (pathOff [Step.snd (size a)])).take (size b) = cs.drop (size a) := by
            rw [List.take_of_length_le]
            · simp [pathOff, Step.off]
            · simp [pathOff, Step.off]; omega
          rw [this] at h4
          exact h4
        | succ n =>
          have hag : isAgg b = true := by
            obtain ⟨q, u, h3, _⟩ := h 1 (by omega)
            simp only [fpath, Option.map_eq_some_iff, Prod.mk.injEq] at h3
            obtain ⟨⟨q', u'⟩, h4, _⟩ := h3
            cases b <;> simp [fpath] at h4 <;> rfl
          refine ihb (n + 2) (cs.drop (size a)) (by omega) hag (fun i hi => ?_) (by simp; omega)
          obtain ⟨q, u, h3, z, h4⟩ := h (i + 1) (by omega)
          simp only [fpath, Option.map_eq_some_iff, Prod.mk.injEq] at h3
          obtain ⟨⟨q', u'⟩, h5, rfl, rfl⟩ := h3
          refine ⟨q', u', h5, z, ?_⟩
          simp only [pathOff, Step.off] at h4
          rw [List.drop_drop]
          exact h4
      obtain ⟨z, hz⟩ := hb
      refine ⟨(y, z), ?_⟩
      simp only [Rep]
      exact ⟨_, _, (List.take_append_drop (size a) cs).symm, h2, hz⟩
  | nil =>
    intro n cs hn hag h hl
    obtain ⟨q, u, h1, _⟩ := h 0 (by omega)
    simp [fpath] at h1
  | _ => intro n cs hn hag; simp [isAgg] at hag

/-- a list of witnesses -/
theorem list_of {α : Type} (n : Nat) (p : Nat → α → Prop) (h : ∀ i, i < n → ∃ y, p i y) : ∃ ys : List α, ys.length = n ∧ ∀ i y, ys[i]? = some y → p i y := by
  induction n with
  | zero => exact ⟨[], rfl, fun i y hy => by simp at hy⟩
  | succ n ih =>
    obtain ⟨ys, hl, hp⟩ := ih (fun i hi => h i (by omega))
    obtain ⟨y, hy⟩ := h n (by omega)
    refine ⟨ys ++ [y], by simp [hl], fun i z hz => ?_⟩
    rcases Nat.lt_or_ge i n with hi | hi
    · rw [List.getElem?_append_left (by omega)] at hz
      exact hp i z hz
    · have hi' : i = n := by
        have := (List.getElem?_eq_some_iff.1 hz).1
        rw [List.length_append, List.length_singleton] at this
        omega
      subst hi'
      rw [← hl, List.getElem?_concat_length] at hz
      obtain rfl := Option.some.inj hz
      exact hy

section
variable {H' : Type} {enc : TypeId × Value → H'} {P : Program} {H : Hints} {w : World}

theorem cells_spot {a : Addr} {n : Nat} {cs : List Value} (h : w.cells? 0 a n = some cs) (hn : 0 < n) : a.spot = none ∧ a.block < w.heap.size := by
  obtain ⟨_, h1, h2⟩ := World.cells?_some h
  have h3 := h2 0 hn
  have h4 : a.add 0 = a := rfl
  rw [h4] at h3
  have h5 : ∃ v, w.cell? a = some v := ⟨cs[0]'(by omega), by rw [h3]; simp⟩
  obtain ⟨v, h6⟩ := h5
  refine ⟨?_, World.block_lt_of_cell? w a h6⟩
  unfold World.cell? at h6
  split at h6
  · split at h6
    · cases h6
    · rename_i hh; simpa using hh
  · cases h6

/-- an array of two -/
theorem trod_array2 {T E : TypeId} {fuel : Nat} {cs : List Value} {x : DataW H' × List MemPlace} (ht : P.underlying T = some (.array 2 E)) (hc : P.cellsOf E = 1) (hl : P.cellsOf T = 2) (h : DataW.trod enc P w 0 (fun _ => true) true fuel T cs = some x) :
    ∃ c0 c1 n y0 y1, cs = [c0, c1] ∧ DataW.trod enc P w 0 (fun _ => true) true n E [c0] = some y0 ∧ DataW.trod enc P w 0 (fun _ => true) true n E [c1] = some y1 := by
  cases fuel with
  | zero => simp [DataW.trod] at h
  | succ n =>
    unfold DataW.trod at h
    rw [ht] at h
    have r2 : List.range 2 = [0, 1] := rfl
    simp only [r2, hc, hl] at h
    by_cases hlen : cs.length = 2
    · match cs, hlen with
      | [c0, c1], _ =>
        simp at h
        cases h0 : DataW.trod enc P w 0 (fun _ => true) true n E [c0] with
        | none => simp [h0] at h
        | some y0 =>
          cases h1 : DataW.trod enc P w 0 (fun _ => true) true n E [c1] with
          | none => simp [h0, h1] at h
          | some y1 => exact ⟨c0, c1, n, y0, y1, rfl, h0, h1⟩
    · simp [hlen] at h

/-- what is read as data of a type holds a value of its kind -/
theorem reads (hf : Fit P H) : ∀ (m : Nat) (t : Ty), nodes t < m → ∀ (T : Nat), H.ty T = some t → ∀ (fuel : Nat) (cs : List Value) (x : DataW H' × List MemPlace), DataW.trod enc P w 0 (fun _ => true) true fuel T cs = some x → ∃ y : Den t, Rep w (fun b => b < w.heap.size) false t y cs := by
  intro m
  induction m with
  | zero => intro t h; omega
  | succ m ih =>
    intro t hm T hT fuel cs x hx
    have hft := hf.ty T t hT
    have hu := hft.under
    unfold UFit at hu
    have hcells : ∀ T' u, H.ty T' = some u → P.cellsOf T' = size u := by
      intro T' u hT'
      obtain ⟨i, z, h1, h2, _⟩ := (hf.ty T' u hT').info
      simp [Program.cellsOf, h1, h2]
    have hstruct : SFit P H T t ∨ AFit P H T t → isAgg t = true → ∃ y : Den t, Rep w (fun b => b < w.heap.size) false t y cs := by
      rintro (⟨hnz, fs, h1, h2, _, h3⟩ | ⟨_, rfl, _, E, h1, h2, i, h3, h4⟩) hag
      · obtain ⟨xs, n, _, _, hl, hlen, hfd⟩ := DataW.trod_struct h1 hx
        refine fields_Rep t (H.nf T) cs hnz hag (fun i hi => ?_) (by rw [hl, hcells T t hT])
        have hi' : i < fs.size := by omega
        obtain ⟨q, u, k1, k2, k3, _⟩ := h3 i fs[i] (by simp [hi'])
        have hd := hfd i fs[i] (by simp [hi'])
        rw [List.getElem?_eq_getElem (by omega), k2, hcells _ u k3] at hd
        obtain ⟨y, hy⟩ := ih u (by have := fpath_nodes _ _ _ _ _ k1; omega) _ k3 _ _ _ hd
        exact ⟨q, u, k1, y, hy⟩
      · have hcE : P.cellsOf E = 1 := by simp [Program.cellsOf, h3, h4]
        obtain ⟨c0, c1, n, y0, y1, rfl, g0, g1⟩ := trod_array2 h1 hcE (by rw [hcells T _ hT]; rfl) hx
        obtain ⟨n0, e0, _, w0⟩ := DataW.trod_int h2 g0
        obtain ⟨n1, e1, _, w1⟩ := DataW.trod_int h2 g1
        simp only [List.cons.injEq, and_true] at e0 e1
        subst e0 e1
        simp only [Lit.wf, Bool.and_eq_true, decide_eq_true_eq] at w0 w1
        refine ⟨(n0, n1), ?_⟩
        simp only [Rep]
        exact ⟨[.int .i64 n0], [.int .i64 n1], rfl, ⟨rfl, w0⟩, rfl, w1⟩
    cases t with
    | int k =>
      obtain ⟨n, rfl, _, hw⟩ := DataW.trod_int hu hx
      simp only [Lit.wf, Bool.and_eq_true, decide_eq_true_eq] at hw
      exact ⟨n, by simp only [Rep]; exact ⟨trivial, hw⟩⟩
    | bool =>
      obtain ⟨b, rfl, _⟩ := DataW.trod_bool hu hx
      exact ⟨b, by simp only [Rep]⟩
    | sl u =>
      obtain ⟨E, h1, h2⟩ := hu
      have hsz := hcells E u h2
      have hpos := (hf.ty E u h2).pos
      rcases DataW.trod_slice h1 hx with ⟨rfl, _⟩ | ⟨a, len, cap, elems, rest, n, _, rfl, _, _, hl, hm2, hlen, hel, hsp, _⟩
      · exact ⟨(true, []), by simp only [Rep]; exact .inl ⟨trivial, trivial, trivial⟩⟩
      · rw [hsz] at hel hsp
        by_cases hc : cap = 0
        · have hl0 : len = 0 := by omega
          subst hc hl0
          exact ⟨(false, []), by simp only [Rep]; exact .inr (.inr ⟨trivial, trivial, a, rfl⟩)⟩
        · have hspot : a.spot = none := by
            by_cases hl0 : len = 0
            · subst hl0
              obtain ⟨r1, r2⟩ := hsp rfl
              have h3 := r2 0 (by omega)
              rw [List.getElem?_eq_getElem (by omega), Option.bind_eq_some_iff] at h3
              obtain ⟨c, h4, _⟩ := h3
              simp only [Nat.add_zero, Nat.zero_mul] at h4
              exact (cells_spot h4 hpos).1
            · have h3 := hel 0 (by omega)
              rw [List.getElem?_eq_getElem (by omega), Option.bind_eq_some_iff] at h3
              obtain ⟨c, h4, _⟩ := h3
              simp only [Nat.zero_mul] at h4
              exact (cells_spot h4 hpos).1
          obtain ⟨b, o, sp⟩ := a
          simp only at hspot
          subst hspot
          obtain ⟨ys, hy, hp⟩ := list_of len (fun i y => b < w.heap.size ∧ ∃ c, c.length = size u ∧ rd w b (o + i * size u) c ∧ Rep w (fun b => b < w.heap.size) false u y c) (fun i hi => by
            have h3 := hel i hi
            rw [List.getElem?_eq_getElem (by omega), Option.bind_eq_some_iff] at h3
            obtain ⟨c, h4, h5⟩ := h3
            obtain ⟨y, h6⟩ := ih u (by simp only [nodes] at hm; omega) E h2 _ _ _ h5
            rw [Addr.add_none] at h4
            refine ⟨y, (cells_spot h4 hpos).2, c, Rep_length _ _ _ h6, ?_, h6⟩
            obtain ⟨_, k1, k2⟩ := World.cells?_some h4
            intro j v hj
            have hjl := (List.getElem?_eq_some_iff.1 hj).1
            have := k2 j (by omega)
            rw [Addr.add_none, hj] at this
            exact this)
          refine ⟨(false, ys), ?_⟩
          simp only [Rep]
          refine .inr (.inl ⟨trivial, b, o, cap, ?_, ?_, ?_, fun i e he => hp i e he⟩)
          · rw [hy]
          · rw [hy]; exact hl
          · rw [hy]; unfold maxLen at hm2; unfold big; omega
    | fn f c => exact hu.elim
    | hsl u => exact hu.elim
    | nil => exact hstruct hu rfl
    | one a => exact hstruct hu rfl
    | pair a b => exact hstruct hu rfl

/-- a parameter -/
theorem open_rf (hf : Fit P H) {S : Nat → Prop} (hS : S = fun b => b < w.heap.size) {hv : Nat → Value} {g : Look} {T : Nat} {t : Ty} (hT : H.ty T = some t) {r : Reach} {b0 : Nat} {v : Value} {dd : DataW H'} {p : List MemPlace}
    (hv0 : Value.okWide P w r b0 T v) (h : DataW.Trod enc P w 0 (fun _ => true) true T v dd p) : ∃ x : Den t, VR w S hv g (.v t x) v ∧ WfD t x := by
  obtain ⟨fuel, hx⟩ := h
  obtain ⟨y, hy⟩ := reads hf _ t (Nat.lt_succ_self _) T hT _ _ _ hx
  rw [← hS] at hy
  refine ⟨y, ?_, Rep_WfD _ _ _ hy⟩
  have hft := hf.ty T t hT
  have hu := hft.under
  unfold UFit at hu
  have hstruct : SFit P H T t ∨ AFit P H T t → isAgg t = true → VR w S hv g (.v t y) v := by
    intro hsa hag
    have hcs : ∃ cs, v = .agg cs := by
      rcases hsa with ⟨_, fs, h1, _⟩ | ⟨_, _, _, E, h1, _⟩
      · obtain ⟨cs, h, _⟩ := okWide_struct h1 hv0
        exact ⟨cs, h⟩
      · simp only [Value.okWide, h1] at hv0
        obtain ⟨cs, h, _⟩ := hv0
        exact ⟨cs, h⟩
    obtain ⟨cs, rfl⟩ := hcs
    show V0 _ _ _
    exact .inr (.inl ⟨hag, cs.toList, by simp, by simpa [CRep, Value.cells] using hy⟩)
  cases t with
  | int k =>
    obtain ⟨n, rfl⟩ := okWide_int hu hv0
    rw [VR_v rfl]
    simpa [Value.cells] using hy
  | bool =>
    obtain ⟨n, rfl⟩ := okWide_bool hu hv0
    rw [VR_v rfl]
    simpa [Value.cells] using hy
  | sl u =>
    obtain ⟨E, h1, _⟩ := hu
    obtain ⟨a, len, cap, rfl⟩ := okWide_slice h1 hv0
    rw [VR_v rfl]
    simpa [Value.cells] using hy
  | fn f c => exact hu.elim
  | hsl u => exact hu.elim
  | nil => exact hstruct hu rfl
  | one a => exact hstruct hu rfl
  | pair a b => exact hstruct hu rfl

theorem CRep_one_more {S : Nat → Prop} {hv : Nat → Value} {g : Look} {t : Ty} {x : Den t} {v : Value} {s : SV} {vs : List Value} (h : VR w S hv g (.v t x) v) (hs : CRep w S hv g true s vs) : CRep w S hv g true (.tup (.v t x) s) (v :: vs) := by
  simp only [CRep]
  exact ⟨v, vs, rfl, VR_V0 h, hs⟩

theorem CRep_no_more {S : Nat → Prop} {hv : Nat → Value} {g : Look} : CRep w S hv g true .unit [] := by simp only [CRep]

/-- a law's call -/
theorem law_calls (hf : Fit P H) (hn : NatOk P H) {key : Nat} {h : FnH} (hk : H.key key = some h) {x : Den (tyOf (aTys H key))} {y : Den (tyOf (rTys H key))} (hx : (inf H).call key x = some y) {sv : SV} {b : Bool}
    (hr : reb h.pars (unpack (aTys H key) x) = some ⟨sv, [], []⟩) (hs : reb h.outs (unpack (rTys H key) y) = some ⟨.tup (.v .bool b) .unit, [], []⟩) (hb : h.bk.length = 0) {vs : List Value}
    (ha : CRep w (fun b => b < w.heap.size) (fun _ => undef) (fun _ => none) true sv vs) : Calls P h.fid vs.toArray w fun e w' => e = .returned (.bool b) ∧ Below w.heap.size w w' := by
  obtain ⟨k, hx⟩ := inf_call.1 hx
  obtain ⟨r, k1, _, _, _, k2⟩ := (lev_sound hf hn k).1 key x y hx h hk
  rw [hr] at k1
  simp only [Option.some.injEq] at k1
  subst k1
  refine (k2 w (fun b => b < w.heap.size) (fun _ => undef) (fun _ _ => False) vs ⟨fun c r h => (by cases h), fun c b h => h.elim, fun c c' b h => h.elim, fun c b h => h.elim, fun c b h => h.elim, fun b h => h⟩ ha).mono fun e w' he => ?_
  obtain ⟨v, s, rfl, k3, S', hv', F', hE, hV⟩ := he
  rw [hs] at k3
  simp only [Option.some.injEq] at k3
  subst k3
  rw [hb] at hV
  have hv0 : v = .bool b := VR_bool.1 hV
  subst hv0
  exact ⟨rfl, hE.st.1, hE.st.2.2.1, hE.st.2.1, hE.sz, fun i hi => hE.fr i hi fun c hc => hc⟩

/-- the call of a function that gives a whole number and hands nothing on: what lay there lies there still -/
theorem num_calls (hf : Fit P H) (hn : NatOk P H) {key : Nat} {h : FnH} (hk : H.key key = some h) {x : Den (tyOf (aTys H key))} {y : Den (tyOf (rTys H key))} (hx : (inf H).call key x = some y) {sv : SV} {c : Int}
    (hr : reb h.pars (unpack (aTys H key) x) = some ⟨sv, [], []⟩) (hs : reb h.outs (unpack (rTys H key) y) = some ⟨.tup (.v (.int .i64) c) .unit, [], []⟩) (hb : h.bk.length = 0) {vs : List Value}
    (ha : CRep w (fun b => b < w.heap.size) (fun _ => undef) (fun _ => none) true sv vs) : Calls P h.fid vs.toArray w fun e w' => e = .returned (.int .i64 c) ∧ ∃ q os, w' = Go.Sort.grow (w.drewN q) os := by
  obtain ⟨k, hx⟩ := inf_call.1 hx
  obtain ⟨r, k1, _, _, _, k2⟩ := (lev_sound hf hn k).1 key x y hx h hk
  rw [hr] at k1
  simp only [Option.some.injEq] at k1
  subst k1
  refine (k2 w (fun b => b < w.heap.size) (fun _ => undef) (fun _ _ => False) vs ⟨fun c r h => (by cases h), fun c b h => h.elim, fun c c' b h => h.elim, fun c b h => h.elim, fun c b h => h.elim, fun b h => h⟩ ha).mono fun e w' he => ?_
  obtain ⟨v, s, rfl, k3, S', hv', F', hE, hV⟩ := he
  rw [hs] at k3
  simp only [Option.some.injEq] at k3
  subst k3
  rw [hb] at hV
  have hv0 : v = .int .i64 c := (VR_int.1 hV).1
  subst hv0
  obtain ⟨s1, s2, s3, s4⟩ := hE.st
  have hsz := hE.sz
  have hfr := hE.fr
  refine ⟨rfl, w'.drawn - w.drawn, w'.heap.extract w.heap.size w'.heap.size, ?_⟩
  have hh : w'.heap = w.heap ++ w'.heap.extract w.heap.size w'.heap.size := by
    refine Array.ext_getElem? fun i => ?_
    by_cases hi : i < w.heap.size
    · rw [Array.getElem?_append_left hi]
      exact hfr i hi fun c hc => hc
    · rw [Array.getElem?_append_right (by omega), Array.getElem?_extract]
      by_cases hi2 : i < w'.heap.size
      · rw [if_pos (by omega)]
        congr 1
        omega
      · rw [if_neg (by omega), Array.getElem?_eq_none (by omega)]
  have hd : w.drawn + (w'.drawn - w.drawn) = w'.drawn := by omega
  generalize w'.heap.extract w.heap.size w'.heap.size = X at hh ⊢
  generalize w'.drawn - w.drawn = q at hd ⊢
  unfold Go.Sort.grow World.drewN
  obtain ⟨a1, a2, a3, a4, a5⟩ := w'
  simp only at s1 s2 s3 hh hd ⊢
  subst s1 s2 s3 hh hd
  rfl
end
end Go.Rf

namespace Go.Rf

def zEq : Value → Value → Bool
  | .int k n, .int k' n' => decide (k = k') && n == n'
  | .bool a, .bool b => a == b
  | .slice none 0 0, .slice none 0 0 => true
  | .nilFunc, .nilFunc => true
  | _, _ => false

theorem zEq_spec {a b : Value} (h : zEq a b = true) : a = b := by
  unfold zEq at h
  split at h
  · simp only [Bool.and_eq_true, decide_eq_true_eq, beq_iff_eq] at h
    rw [h.1, h.2]
  · simp only [beq_iff_eq] at h; rw [h]
  · rfl
  · rfl
  · cases h

def zEqL : List Value → List Value → Bool
  | [], [] => true
  | a :: l, b :: m => zEq a b && zEqL l m
  | _, _ => false

theorem zEqL_spec : ∀ {l m : List Value}, zEqL l m = true → l = m
  | [], [], _ => rfl
  | a :: l, b :: m, h => by
    simp only [zEqL, Bool.and_eq_true] at h
    rw [zEq_spec h.1, zEqL_spec h.2]
  | [], _ :: _, h => by simp [zEqL] at h
  | _ :: _, [], h => by simp [zEqL] at h

def notAgg : Value → Bool
  | .agg _ => false
  | _ => true

def infoB (P : Program) (T : Nat) (t : Ty) : Bool := match P.info? T with
  | some i => (i.size == size t) && (Nat.ble i.bytes 128 && (match i.zero with
    | some z => zEqL z.cells.toList (zcells t) && (notAgg z == !isAgg t)
    | none => false))
  | none => false

def fieldsB (H : Hints) (t : Ty) (n : Nat) : Nat → List Field → Bool
  | _, [] => true
  | i, f :: l => (match fpath t n i with
    | some (q, u) => (f.offset == pathOff q) && ((match H.ty f.type with
      | some u' => decide (u' = u)
      | none => false) && !(f.name == "_"))
    | none => false) && fieldsB H t n (i + 1) l

def isIntD (k : IntKind) : Option TypeDesc → Bool
  | some (.int k') => decide (k' = k)
  | _ => false
def isBoolD : Option TypeDesc → Bool
  | some .bool => true
  | _ => false
def sliceD : Option TypeDesc → Option Nat
  | some (.slice E) => some E
  | _ => none
def structD : Option TypeDesc → Option (Array Field)
  | some (.struct fs) => some fs
  | _ => none

def structB (P : Program) (H : Hints) (T : Nat) (t : Ty) : Bool := match structD (P.underlying T) with
  | some fs => (fs.size == H.nf T) && (!(P.stoodInHeld T) && fieldsB H t (H.nf T) 0 fs.toList)
  | none => false

def arrD : Option TypeDesc → Option Nat
  | some (.array 2 E) => some E
  | _ => none

def arrB (P : Program) (T : Nat) (t : Ty) : Bool := decide (t = .pair (.int .i64) (.int .i64)) && (!(P.stoodInHeld T) && (match arrD (P.underlying T) with
  | some E => isIntD .i64 (P.underlying E) && (match P.info? E with
    | some i => i.size == 1
    | none => false)
  | none => false))

def mapB (P : Program) (e : Nat × (Nat × Nat)) : Bool := match P.underlying e.1 with
  | some (.map K E) => K == e.2.1 && E == e.2.2
  | _ => false

def ufitB (P : Program) (H : Hints) (T : Nat) (t : Ty) : Bool := match t with
  | .int k => isIntD k (P.underlying T)
  | .bool => isBoolD (P.underlying T)
  | .sl u => (match sliceD (P.underlying T) with
    | some E => (match H.ty E with
      | some u' => decide (u' = u)
      | none => false)
    | none => false)
  | .fn _ _ => false
  | .hsl _ => false
  | t => (match H.nf T with
    | 0 => arrB P T t
    | _ => structB P H T t)

def tfitB (P : Program) (H : Hints) (T : Nat) (t : Ty) : Bool :=
  infoB P T t && (Nat.blt 0 (size t) && (plain t && (Nat.blt (nodes t) 1000 && (!(P.eqGuardType P.depth T) && ufitB P H T t))))

theorem structD_spec {d : Option TypeDesc} {fs : Array Field} (h : structD d = some fs) : d = some (.struct fs) := by
  unfold structD at h
  split at h
  · simp at h; rw [h]
  · cases h

theorem fieldsB_spec {H : Hints} {t : Ty} {n : Nat} : ∀ (l : List Field) (i : Nat), fieldsB H t n i l = true → ∀ j f, l[j]? = some f → ∃ q u, fpath t n (i + j) = some (q, u) ∧ f.offset = pathOff q ∧ H.ty f.type = some u ∧ (f.name == "_") = false
  | [], i, _, j, f, h => by simp at h
  | g :: l, i, hb, j, f, h => by
    simp only [fieldsB, Bool.and_eq_true] at hb
    cases j with
    | zero =>
      simp at h
      subst h
      have h1 := hb.1
      split at h1
      · rename_i q u hq
        simp only [Bool.and_eq_true, Bool.not_eq_true', beq_iff_eq] at h1
        obtain ⟨h2, h3, h4⟩ := h1
        split at h3
        · rename_i u' hu
          have := of_decide_eq_true h3
          subst this
          exact ⟨q, u', hq, h2, hu, h4⟩
        · cases h3
      · cases h1
    | succ j =>
      have := fieldsB_spec l (i + 1) hb.2 j f (by simpa using h)
      rw [Nat.add_assoc, Nat.add_comm 1 j] at this
      exact this

theorem structB_spec {P : Program} {H : Hints} {T : Nat} {t : Ty} (h : structB P H T t = true) : ∃ fs, P.underlying T = some (.struct fs) ∧ fs.size = H.nf T ∧ P.stoodInHeld T = false ∧ ∀ i f, fs[i]? = some f → ∃ q u, fpath t (H.nf T) i = some (q, u) ∧ f.offset = pathOff q ∧ H.ty f.type = some u ∧ (f.name == "_") = false := by
  unfold structB at h
  split at h
  · rename_i fs hfs
    simp only [Bool.and_eq_true, Bool.not_eq_true', beq_iff_eq] at h
    refine ⟨fs, structD_spec hfs, h.1, h.2.1, fun i f hf => ?_⟩
    have := fieldsB_spec _ 0 h.2.2 i f (by simpa using hf)
    rw [Nat.zero_add] at this
    exact this
  · cases h

theorem arrB_spec {P : Program} {H : Hints} {T : Nat} {t : Ty} (h0 : H.nf T = 0) (h : arrB P T t = true) : AFit P H T t := by
  unfold arrB at h
  simp only [Bool.and_eq_true, decide_eq_true_eq, Bool.not_eq_true'] at h
  obtain ⟨h1, h2, h3⟩ := h
  split at h3
  · rename_i E hE
    simp only [Bool.and_eq_true] at h3
    obtain ⟨h4, h5⟩ := h3
    refine ⟨h0, h1, h2, E, ?_, ?_, ?_⟩
    · unfold arrD at hE
      split at hE
      · rename_i E' hE'
        simp only [Option.some.injEq] at hE
        rw [hE', hE]
      · cases hE
    · unfold isIntD at h4
      split at h4
      · rename_i k hk
        rw [hk, of_decide_eq_true h4]
      · cases h4
    · split at h5
      · rename_i i hi
        exact ⟨i, hi, by simpa using h5⟩
      · cases h5
  · cases h3

theorem saB_spec {P : Program} {H : Hints} {T : Nat} {t : Ty} (h : (match H.nf T with
    | 0 => arrB P T t
    | _ => structB P H T t) = true) : SFit P H T t ∨ AFit P H T t := by
  split at h
  · rename_i h0
    exact .inr (arrB_spec h0 h)
  · rename_i h0
    exact .inl ⟨fun e => h0 e, structB_spec h⟩

theorem ufitB_spec {P : Program} {H : Hints} {T : Nat} {t : Ty} (h : ufitB P H T t = true) : UFit P H T t := by
  cases t with
  | int k =>
    simp only [ufitB] at h
    show P.underlying T = _
    unfold isIntD at h
    split at h
    · rename_i k' hk
      rw [hk, of_decide_eq_true h]
    · cases h
  | bool =>
    simp only [ufitB] at h
    show P.underlying T = _
    unfold isBoolD at h
    split at h
    · assumption
    · cases h
  | sl u =>
    simp only [ufitB] at h
    split at h
    · rename_i E hE
      split at h
      · rename_i u' hu
        have := of_decide_eq_true h
        subst this
        refine ⟨E, ?_, hu⟩
        unfold sliceD at hE
        split at hE
        · rename_i E' hE'
          simp at hE
          rw [hE', hE]
        · cases hE
      · cases h
    · cases h
  | fn f c => simp [ufitB] at h
  | hsl u => simp [ufitB] at h
  | nil => exact saB_spec h
  | one a => exact saB_spec h
  | pair a b => exact saB_spec h

theorem tfitB_spec {P : Program} {H : Hints} {T : Nat} {t : Ty} (h : tfitB P H T t = true) : TFit P H T t := by
  unfold tfitB at h
  simp only [Bool.and_eq_true, Bool.not_eq_true', Nat.blt_eq, Bool.or_eq_true] at h
  obtain ⟨h1, h2, h3, h4, h6, h7⟩ := h
  refine ⟨?_, h2, h3, h4, h6, ufitB_spec h7⟩
  · unfold infoB at h1
    split at h1
    · rename_i i hi
      simp only [Bool.and_eq_true, beq_iff_eq, Nat.ble_eq] at h1
      obtain ⟨k1, k2, k3⟩ := h1
      split at k3
      · rename_i z hz
        simp only [Bool.and_eq_true, beq_iff_eq] at k3
        refine ⟨i, z, hi, k1, k2, hz, zEqL_spec k3.1, fun hag => ?_, fun hag => ?_⟩
        · have := k3.2
          rw [hag] at this
          cases z <;> simp [notAgg] at this
          exact ⟨_, rfl⟩
        · have := k3.2
          rw [hag] at this
          refine ⟨z, ?_, rfl⟩
          cases z <;> simp [notAgg] at this <;> rfl
      · cases k3
    · cases h1

def zOne : Option Value → Bool
  | some (.pointer none) => true
  | some .nilFunc => true
  | _ => false
theorem zOne_spec {z : Option Value} (h : zOne z = true) : ∃ v, z = some v ∧ v.cells.toList = [v] ∧ v.oneCell' = true := by
  unfold zOne at h
  split at h
  · exact ⟨_, rfl, rfl, rfl⟩
  · exact ⟨_, rfl, rfl, rfl⟩
  · cases h
def cellB (P : Program) (T : Nat) : Bool := (match P.info? T with
  | some i => (i.size == 1) && zOne i.zero
  | none => false) && (match P.underlying T with
  | some d => !aggDesc d
  | none => false)

theorem lookupN_mem {α : Type} : ∀ {l : List (Nat × α)} {k : Nat} {a : α}, lookupN l k = some a → (k, a) ∈ l
  | [], k, a, h => by simp [lookupN] at h
  | (j, b) :: l, k, a, h => by
    simp only [lookupN] at h
    cases hj : (j == k)
    · rw [hj] at h
      exact List.mem_cons_of_mem _ (lookupN_mem h)
    · rw [hj] at h
      have : j = k := by simpa using hj
      simp only [cond_true, Option.some.injEq] at h
      subst this h
      exact List.mem_cons_self ..

def FnAll (P : Program) : List (Nat × FnH) → Prop
  | [] => True
  | e :: l => (P.funcs[e.2.fid]? = some e.2.f ∧ e.2.f.body.isSome = true ∧ (e.2.f.name == "runtime.NumGoroutine") = false) ∧ FnAll P l

theorem FnAll_mem {P : Program} : ∀ {l : List (Nat × FnH)}, FnAll P l → ∀ e ∈ l, P.funcs[e.2.fid]? = some e.2.f ∧ e.2.f.body.isSome = true ∧ (e.2.f.name == "runtime.NumGoroutine") = false
  | [], _, e, he => by cases he
  | a :: l, h, e, he => by
    rcases List.mem_cons.1 he with rfl | he
    · exact h.1
    · exact FnAll_mem h.2 e he

def ExtOk (P : Program) (e : Nat × ExtF) : Prop := match e.2 with
  | .add64 => ∀ (x y c : Int) (w : World), 0 ≤ x → 0 ≤ y → 0 ≤ c → c ≤ 1 →
    (callFunc e.1 #[.int .u64 x, .int .u64 y, .int .u64 c]).run P w = .ok (.value (.tuple #[.int .u64 ((x + y + c) % 18446744073709551616), .int .u64 ((x + y + c) / 18446744073709551616)])) w
  | .backward gf => BackOk P e.1 gf
  | .clone E => CloneOk P e.1 E
def AddAll (P : Program) : List (Nat × ExtF) → Prop
  | [] => True
  | e :: l => ExtOk P e ∧ AddAll P l
def IterAll (P : Program) (H : Hints) : List (Nat × Nat) → Prop
  | [] => True
  | e :: l => (∃ t, H.ty e.2 = some t ∧ IterOk P e.1 (isAgg t) (size t)) ∧ IterAll P H l

theorem add_of {P : Program} {f : FuncId} {fn : Func} (hf : P.funcs[f]? = some fn) (hname : (fn.name == "runtime.NumGoroutine") = false) (hb : fn.body.isNone = true) (hn : Extern.findNext fn = none) (he : Extern.find fn = some add64Entry)
    (x y c : Int) (w : World) (h1 : 0 ≤ x) (h2 : 0 ≤ y) (h3 : 0 ≤ c) (h4 : c ≤ 1) : (callFunc f #[.int .u64 x, .int .u64 y, .int .u64 c]).run P w = .ok (.value (.tuple #[.int .u64 ((x + y + c) % 18446744073709551616), .int .u64 ((x + y + c) / 18446744073709551616)])) w := by
  rw [run_callFunc_extern hf hname hb hn he, run_add64 _ _ _ h1 h2 h3 h4]
  rfl

theorem AddAll_mem {P : Program} : ∀ {l : List (Nat × ExtF)}, AddAll P l → ∀ e ∈ l, ExtOk P e
  | [], _, e, he => by cases he
  | a :: l, h, e, he => by
    rcases List.mem_cons.1 he with rfl | he
    · exact h.1
    · exact AddAll_mem h.2 e he
theorem IterAll_mem {P : Program} {H : Hints} : ∀ {l : List (Nat × Nat)}, IterAll P H l → ∀ e ∈ l, ∃ t, H.ty e.2 = some t ∧ IterOk P e.1 (isAgg t) (size t)
  | [], _, e, he => by cases he
  | a :: l, h, e, he => by
    rcases List.mem_cons.1 he with rfl | he
    · exact h.1
    · exact IterAll_mem h.2 e he

theorem fit_of {P : Program} {H : Hints} {exts : List (Nat × ExtF)} {tys : List (Nat × Ty)} {cells : List Nat} {keys : List (Nat × FnH)} {mtys : List (Nat × (Nat × Nat))} {iters : List (Nat × Nat)} (e1 : H.extF = lookupN exts) (e2 : H.ty = lookupN tys) (e3 : H.cell = hasN cells) (e4 : H.key = lookupN keys) (e5 : H.mty = lookupN mtys) (e6 : H.iter = lookupN iters) (h6 : mtys.all (mapB P) = true)
    (h1 : (tys.all fun e => tfitB P H e.1 e.2) = true) (h2 : cells.all (cellB P) = true) (h3 : FnAll P keys) (h4 : AddAll P exts) (h7 : IterAll P H iters) (h5 : P.follows .mixedOrders = true) : Fit P H where
  ty := fun T t h => by
    rw [e2] at h
    exact tfitB_spec (List.all_eq_true.1 h1 _ (lookupN_mem h))
  cell := fun T _ h => by
    rw [e3] at h
    have := List.all_eq_true.1 h2 T (hasN_iff.1 h)
    unfold cellB at this
    simp only [Bool.and_eq_true] at this
    obtain ⟨k1, k2⟩ := this
    refine ⟨?_, ?_⟩
    · split at k1
      · rename_i i hi
        rw [Bool.and_eq_true] at k1
        exact ⟨i, hi, by simpa using k1.1, zOne_spec k1.2⟩
      · cases k1
    · split at k2
      · rename_i d hd
        exact ⟨d, hd, by simpa using k2⟩
      · cases k2
  fn := fun key h hk => by
    rw [e4] at hk
    exact FnAll_mem h3 _ (lookupN_mem hk)
  add64 := fun f hx => by
    rw [e1] at hx
    exact AddAll_mem h4 _ (lookupN_mem hx)
  back := fun f gf hx => by
    rw [e1] at hx
    exact AddAll_mem h4 _ (lookupN_mem hx)
  clone := fun f E hx => by
    rw [e1] at hx
    exact AddAll_mem h4 _ (lookupN_mem hx)
  iter := fun gf E hx => by
    rw [e6] at hx
    exact IterAll_mem h7 _ (lookupN_mem hx)
  mixed := h5
  maps := fun T K E h => by
    rw [e5] at h
    have := List.all_eq_true.1 h6 _ (lookupN_mem h)
    unfold mapB at this
    split at this
    · rename_i K' E' hu
      simp only [Bool.and_eq_true, beq_iff_eq] at this
      obtain ⟨h1, h2⟩ := this
      rw [hu, h1, h2]
    · cases this

theorem nat_of {P : Program} {H : Hints} {keys : List (Nat × FnH)} (e4 : H.key = lookupN keys) (h : NatAll P keys) : NatOk P H := by
  intro key h' f x y hk hf he
  have hm := NatAll_mem h _ (lookupN_mem (by rw [← e4]; exact hk))
  simp only at hm
  cases hm with
  | plain hm => rw [hf] at hm; cases hm
  | sort hs =>
    have hf' : some sortI = some f := hf
    obtain rfl := Option.some.inj hf'
    exact sort_call hs hk he
  | compact hne hs =>
    have hf' : some compactI = some f := hf
    obtain rfl := Option.some.inj hf'
    exact compact_call hne hs hk he
  | sortf hs =>
    have hf' : some sortfI = some f := hf
    obtain rfl := Option.some.inj hf'
    exact sortf_call hs hk he
end Go.Rf

namespace Go.Rf

/-! ### steps -/
theorem gT {α : Type} {p : Prop} [Decidable p] {a b : α} (h : p) : (bif decide p then a else b) = a := by simp [h]
theorem gF {α : Type} {p : Prop} [Decidable p] {a b : α} (h : ¬ p) : (bif decide p then a else b) = b := by simp [h]
theorem bT {α : Type} {p : Bool} {a b : α} (h : p = true) : (bif p then a else b) = a := by simp [h]
theorem bF {α : Type} {p : Bool} {a b : α} (h : p = false) : (bif p then a else b) = b := by simp [h]
theorem beqF {a b : Int} (h : ¬ a = b) : (a == b) = false := by simpa using h
theorem bind_id {α : Type} (x : Option α) : (x.bind fun r => some r) = x := by cases x <;> rfl
theorem some_bind {α β : Type} (a : α) (f : α → Option β) : (some a).bind f = f a := rfl

/-! ### whole numbers -/
def U64 (n : Int) : Prop := 0 ≤ n ∧ n < 18446744073709551616
theorem max_u64 : IntKind.u64.max = 18446744073709551615 := rfl
theorem min_u64 : IntKind.u64.min = 0 := rfl
theorem max_i64 : IntKind.i64.max = 9223372036854775807 := rfl
theorem min_i64 : IntKind.i64.min = -9223372036854775808 := rfl
theorem WfD_u64 {n : Int} (h : WfD (.int .u64) n) : U64 n := by
  have h : (0 : Int) ≤ n ∧ n ≤ 18446744073709551615 := h
  unfold U64
  omega
theorem WfD_i64 {n : Int} (h : WfD (.int .i64) n) : -9223372036854775808 ≤ n ∧ n < 9223372036854775808 := by
  have h : (-9223372036854775808 : Int) ≤ n ∧ n ≤ 9223372036854775807 := h
  omega
theorem wr {n : Int} (h : -9223372036854775808 ≤ n ∧ n < 9223372036854775808) : IntKind.i64.wrap n = n := by
  simp only [IntKind.wrap, IntKind.bits, IntKind.signed]
  simp
  omega
theorem wru_mod (n : Int) : IntKind.u64.wrap n = n % 18446744073709551616 := by
  simp [IntKind.wrap, IntKind.bits, IntKind.signed]
theorem wru {n : Int} (h : 0 ≤ n ∧ n < 18446744073709551616) : IntKind.u64.wrap n = n := by
  rw [wru_mod]
  omega
theorem up1 (i : Nat) (h : i < 4611686018427387904) : IntKind.i64.wrap ((i : Int) + 1) = ((i + 1 : Nat) : Int) := by
  rw [wr (by omega)]
  omega
theorem dn1 (i : Nat) (h : i < 4611686018427387904) (h0 : 0 < i) : IntKind.i64.wrap ((i : Int) - 1) = ((i - 1 : Nat) : Int) := by
  rw [wr (by omega)]
  omega
theorem lim_eq : lim = 1099511627776 := rfl
theorem big_eq : big = 9223372036854775807 := rfl

theorem getD_at {α : Type} (xs : List α) (z : α) (i : Nat) (h : i < xs.length) : xs.getD ((i : Int)).toNat z = xs[i] := by
  simp [List.getD_eq_getElem?_getD, h]

/-! ### words -/
theorem bAnd_eq (a b : Nat) (ha : a < 2 ^ 64) (hb : b < 2 ^ 64) : bAnd .u64 (a : Int) (b : Int) = ((a &&& b : Nat) : Int) := by
  unfold bAnd
  show IntKind.u64.wrap (((BitVec.ofInt 64 (a : Int) &&& BitVec.ofInt 64 (b : Int)).toNat : Nat) : Int) = _
  rw [BitVec.toNat_and, BitVec.ofInt_natCast, BitVec.ofInt_natCast, BitVec.toNat_ofNat, BitVec.toNat_ofNat, Nat.mod_eq_of_lt ha, Nat.mod_eq_of_lt hb]
  have := Nat.and_lt_two_pow a hb
  exact wru ⟨by omega, by simp at this; omega⟩
theorem bOr_eq (a b : Nat) (ha : a < 2 ^ 64) (hb : b < 2 ^ 64) : bOr .u64 (a : Int) (b : Int) = ((a ||| b : Nat) : Int) := by
  unfold bOr
  show IntKind.u64.wrap (((BitVec.ofInt 64 (a : Int) ||| BitVec.ofInt 64 (b : Int)).toNat : Nat) : Int) = _
  rw [BitVec.toNat_or, BitVec.ofInt_natCast, BitVec.ofInt_natCast, BitVec.toNat_ofNat, BitVec.toNat_ofNat, Nat.mod_eq_of_lt ha, Nat.mod_eq_of_lt hb]
  have := Nat.or_lt_two_pow ha hb
  exact wru ⟨by omega, by simp at this; omega⟩
theorem bXor_eq (a b : Nat) (ha : a < 2 ^ 64) (hb : b < 2 ^ 64) : bXor .u64 (a : Int) (b : Int) = ((a ^^^ b : Nat) : Int) := by
  unfold bXor
  show IntKind.u64.wrap (((BitVec.ofInt 64 (a : Int) ^^^ BitVec.ofInt 64 (b : Int)).toNat : Nat) : Int) = _
  rw [BitVec.toNat_xor, BitVec.ofInt_natCast, BitVec.ofInt_natCast, BitVec.toNat_ofNat, BitVec.toNat_ofNat, Nat.mod_eq_of_lt ha, Nat.mod_eq_of_lt hb]
  have := Nat.xor_lt_two_pow ha hb
  exact wru ⟨by omega, by simp at this; omega⟩

theorem shl_one (i : Nat) (h : i < 64) : bShl .u64 1 (i : Int) = ((2 ^ i : Nat) : Int) := by
  unfold bShl
  have e : min ((i : Int)).toNat (IntKind.u64.bits) = i := by
    simp only [Int.toNat_natCast, IntKind.bits]
    omega
  rw [e, Int.one_mul]
  have h2 : (2 : Nat) ^ i < 2 ^ 64 := Nat.pow_lt_pow_right (by decide) h
  rw [wru]
  · simp
  · refine ⟨Int.le_of_lt (Int.pow_pos (by decide)), ?_⟩
    have : ((2 ^ i : Nat) : Int) < ((2 ^ 64 : Nat) : Int) := by exact_mod_cast h2
    simpa using this

/-- One step of a cut, bit by bit. -/
theorem cut_step (a i : Nat) : (a % 2 ^ i) ||| (a &&& 2 ^ i) = a % 2 ^ (i + 1) := by
  apply Nat.eq_of_testBit_eq
  intro j
  rw [Nat.testBit_or, Nat.testBit_and, Nat.testBit_mod_two_pow, Nat.testBit_mod_two_pow, Nat.testBit_two_pow]
  by_cases h1 : j < i
  · have h2 : j < i + 1 := by omega
    have h3 : ¬ i = j := by omega
    simp [h1, h2, h3]
  · by_cases h3 : i = j
    · subst h3
      simp
    · have h2 : ¬ j < i + 1 := by omega
      simp [h1, h2, h3]

theorem pow_le64 {n : Nat} (h : n ≤ 64) : (2 : Nat) ^ n ≤ 18446744073709551616 := by
  have : (2 : Nat) ^ n ≤ 2 ^ 64 := Nat.pow_le_pow_right (by decide) h
  simpa using this
theorem mask_eq (n : Nat) (h0 : 1 ≤ n) (h1 : n ≤ 64) : bShr .u64 18446744073709551615 (IntKind.i64.wrap (64 - (n : Int))) = ((2 ^ n - 1 : Nat) : Int) := by
  rw [wr (by omega)]
  unfold bShr
  have e : min ((64 : Int) - (n : Int)).toNat (IntKind.u64.bits) = 64 - n := by
    simp only [IntKind.bits]
    omega
  rw [e]
  have hp : 0 < (2 : Nat) ^ (64 - n) := Nat.two_pow_pos _
  have hq : (2 : Nat) ^ n * 2 ^ (64 - n) = 18446744073709551616 := by
    rw [← Nat.pow_add, show n + (64 - n) = 64 by omega]
  have hn : 0 < (2 : Nat) ^ n := Nat.two_pow_pos _
  have key : 18446744073709551615 / 2 ^ (64 - n) = 2 ^ n - 1 := by
    have : 18446744073709551615 = (2 ^ n - 1) * 2 ^ (64 - n) + (2 ^ (64 - n) - 1) := by
      rw [Nat.sub_mul, Nat.one_mul, hq]
      have : 2 ^ (64 - n) ≤ 18446744073709551616 := pow_le64 (by omega)
      omega
    rw [this, Nat.mul_comm, Nat.mul_add_div hp, Nat.div_eq_of_lt (by omega), Nat.add_zero]
  have e2 : ((2 : Int) ^ (64 - n)) = ((2 ^ (64 - n) : Nat) : Int) := by simp
  rw [e2, Int.fdiv_eq_ediv_of_nonneg _ (by omega)]
  have : ((18446744073709551615 : Nat) : Int) / ((2 ^ (64 - n) : Nat) : Int) = ((2 ^ n - 1 : Nat) : Int) := by
    rw [← Int.natCast_ediv, key]
  simpa using this

/-! ### loops -/
/-- a loop by a measure: each round ends it, or goes on with less -/
theorem loop_wf {σ ρ : Type} (L : σ → Option ρ) (inv : σ → Prop) (μ : σ → Nat) (res : σ → ρ → Prop)
    (step : ∀ s, inv s → (∃ r, L s = some r ∧ res s r) ∨ ∃ s', L s = L s' ∧ inv s' ∧ μ s' < μ s ∧ ∀ r, res s' r → res s r) : ∀ s, inv s → ∃ r, L s = some r ∧ res s r := by
  have key : ∀ n s, μ s = n → inv s → ∃ r, L s = some r ∧ res s r := by
    intro n
    induction n using Nat.strongRecOn with
    | _ n ih =>
      intro s hn hs
      rcases step s hs with h | ⟨s', h1, h2, h3, h4⟩
      · exact h
      · obtain ⟨r, h5, h6⟩ := ih (μ s') (by omega) s' rfl h2
        exact ⟨r, by rw [h1, h5], h4 r h6⟩
  exact fun s hs => key _ s rfl hs

theorem loop_fold {α σ ρ : Type} (l : List α) (f : σ → α → σ) (g : σ → ρ) (F : σ → Int → Option ρ) (inv : Nat → σ → Prop)
    (hs : ∀ (i : Nat) (h : i < l.length) (s : σ), inv i s → F s (i : Int) = F (f s l[i]) ((i + 1 : Nat) : Int) ∧ inv (i + 1) (f s l[i])) (he : ∀ s, inv l.length s → F s (l.length : Int) = some (g s)) (s : σ) (h0 : inv 0 s) : F s 0 = some (g (l.foldl f s)) := by
  have key : ∀ (d i : Nat) (s : σ), i + d = l.length → inv i s → F s (i : Int) = some (g ((l.drop i).foldl f s)) := by
    intro d
    induction d with
    | zero =>
      intro i s hi hinv
      obtain rfl : i = l.length := by omega
      rw [he s hinv]
      simp
    | succ d ih =>
      intro i s hi hinv
      have hlt : i < l.length := by omega
      obtain ⟨h1, h2⟩ := hs i hlt s hinv
      rw [h1, ih (i + 1) _ (by omega) h2, List.drop_eq_getElem_cons hlt, List.foldl_cons]
  have := key l.length 0 s (by omega) h0
  simpa using this

/-- a fold that may end early -/
def foldE {α σ ρ : Type} (f : σ → α → ρ ⊕ σ) : List α → σ → ρ ⊕ σ
  | [], s => .inr s
  | x :: l, s => match f s x with
    | .inl r => .inl r
    | .inr s' => foldE f l s'

/-- a loop that may end early -/
theorem loop_foldE {α σ ρ τ : Type} (l : List α) (f : σ → α → ρ ⊕ σ) (G : ρ ⊕ σ → τ) (F : σ → Int → Option τ) (inv : Nat → σ → Prop)
    (hs : ∀ (i : Nat) (h : i < l.length) (s : σ), inv i s → (∃ r, f s l[i] = .inl r ∧ F s (i : Int) = some (G (.inl r))) ∨ ∃ s', f s l[i] = .inr s' ∧ F s (i : Int) = F s' ((i + 1 : Nat) : Int) ∧ inv (i + 1) s') (he : ∀ s, inv l.length s → F s (l.length : Int) = some (G (.inr s))) (s : σ) (h0 : inv 0 s) :
    F s 0 = some (G (foldE f l s)) := by
  have key : ∀ (d i : Nat) (s : σ), i + d = l.length → inv i s → F s (i : Int) = some (G (foldE f (l.drop i) s)) := by
    intro d
    induction d with
    | zero =>
      intro i s hi hinv
      obtain rfl : i = l.length := by omega
      rw [he s hinv]
      simp [foldE]
    | succ d ih =>
      intro i s hi hinv
      have hlt : i < l.length := by omega
      rw [List.drop_eq_getElem_cons hlt]
      rcases hs i hlt s hinv with ⟨r, h1, h2⟩ | ⟨s', h1, h2, h3⟩
      · simp only [foldE, h1]
        exact h2
      · simp only [foldE, h1]
        rw [h2, ih (i + 1) s' (by omega) h3]
  have := key l.length 0 s (by omega) h0
  simpa using this

theorem loop_all {α β : Type} (l : List α) (q : α → Bool) (good bad : β) (F : Int → Option β)
    (hs : ∀ (i : Nat) (h : i < l.length), F (i : Int) = bif q l[i] then F ((i + 1 : Nat) : Int) else some bad)
    (he : F (l.length : Int) = some good) : F 0 = some (bif l.all q then good else bad) := by
  have key : ∀ (d i : Nat), i + d = l.length → F (i : Int) = some (bif (l.drop i).all q then good else bad) := by
    intro d
    induction d with
    | zero =>
      intro i hi
      obtain rfl : i = l.length := by omega
      rw [he]
      simp
    | succ d ih =>
      intro i hi
      have hlt : i < l.length := by omega
      rw [hs i hlt, List.drop_eq_getElem_cons hlt, List.all_cons]
      cases hq : q l[i] with
      | false => simp
      | true =>
        rw [cond_true, ih (i + 1) (by omega)]
        simp
  have := key l.length 0 (by omega)
  simpa using this

theorem loop_find {α : Type} (l : List α) (q : α → Bool) (F : Int → Option (Int ⊕ Unit))
    (hs : ∀ (i : Nat) (h : i < l.length), F (i : Int) = bif q l[i] then some (.inl (i : Int)) else F ((i + 1 : Nat) : Int))
    (he : F (l.length : Int) = some (.inr ())) : F 0 = some (bif l.any q then .inl (l.findIdx q : Int) else .inr ()) := by
  have key : ∀ (d i : Nat), i + d = l.length → F (i : Int) = some (bif (l.drop i).any q then .inl ((i + (l.drop i).findIdx q : Nat) : Int) else .inr ()) := by
    intro d
    induction d with
    | zero =>
      intro i hi
      obtain rfl : i = l.length := by omega
      rw [he]
      simp
    | succ d ih =>
      intro i hi
      have hlt : i < l.length := by omega
      rw [hs i hlt, List.drop_eq_getElem_cons hlt, List.any_cons, List.findIdx_cons]
      cases hq : q l[i] with
      | true => simp
      | false =>
        rw [cond_false, ih (i + 1) (by omega)]
        simp only [Bool.false_or, cond_false]
        rw [show i + 1 + (l.drop (i + 1)).findIdx q = i + ((l.drop (i + 1)).findIdx q + 1) by omega]
  have := key l.length 0 (by omega)
  simpa using this

/-- slices.ContainsFunc -/
theorem contains_of {α : Type} {l : List α} {q : α → Bool} {x : Option (Int ⊕ Unit)} (h : x = some (bif l.any q then .inl (l.findIdx q : Int) else .inr ())) :
    ((x.bind fun r => match r with
      | .inl y => some y
      | .inr z => some (-1)).bind fun r => some (decide (r ≥ 0))) = some (l.any q) := by
  rw [h]
  cases hq : l.any q <;> simp

theorem loop_map {α β : Type} (l : List α) (f : α → β) (F : Bool × List β → Int → Option (Bool × List β)) (b : Bool)
    (hs : ∀ (i : Nat) (h : i < l.length) (x : List β), x.length = l.length → F (b, x) (i : Int) = F (b, x.set i (f l[i])) ((i + 1 : Nat) : Int))
    (he : ∀ (x : List β), x.length = l.length → F (b, x) (l.length : Int) = some (b, x)) (x : List β) (hx : x.length = l.length) : F (b, x) 0 = some (b, l.map f) := by
  have key : ∀ (d i : Nat) (x : List β), i + d = l.length → x.length = l.length → F (b, x) (i : Int) = some (b, x.take i ++ (l.drop i).map f) := by
    intro d
    induction d with
    | zero =>
      intro i x hi hx
      obtain rfl : i = l.length := by omega
      rw [he x hx]
      simp [List.take_of_length_le (Nat.le_of_eq hx)]
    | succ d ih =>
      intro i x hi hx
      have hlt : i < l.length := by omega
      rw [hs i hlt x hx, ih (i + 1) _ (by omega) (by simpa using hx), List.drop_eq_getElem_cons hlt, List.map_cons]
      have e : (x.set i (f l[i])).take (i + 1) = x.take i ++ [f l[i]] := by
        rw [List.take_succ_eq_append_getElem (by simpa using (by omega : i < x.length)), List.getElem_set_self, List.take_set_of_le (Nat.le_refl _)]
      rw [e]
      simp
  have := key l.length 0 x (by omega) hx
  simpa using this
end Go.Rf
