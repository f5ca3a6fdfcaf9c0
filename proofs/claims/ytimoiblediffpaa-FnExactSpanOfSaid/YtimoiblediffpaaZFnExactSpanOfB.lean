/- What the proof of the law FnExactSpanOf leans on, part 2: words, printed walks of the Go functions, plain lemmas. -/
import Derived.ProofKit
import Derived.OpenShut
import Derived.ShutString
import Derived.ChangeOld
import Derived.ChangeArms
import Derived.Carry
import Derived.SizedLaws
import Derived.Test.YtimoiblediffpaaZFnExactSpanOfA
section
set_option linter.unusedVariables false
namespace Go.Proofs.Ytimoiblediffpaa.Open
open Go.ChangeShapes Go.WideShapes Go.ChangeAt Go.RowKit Go.Proofs.YtimoiblediffpaaW.PrintWords
variable {H : Type} {enc : TypeId × Value → H} {P : Program} {w : World}
def Opens {H : Type} (enc : TypeId × Value → H) (P : Program) (w : World) (t : TypeId) {α : Type} (d : Kd α) (Wf : α → Prop) : Prop :=
  ∀ (fuel : Nat) (cs : List Value) (x : DataW H × List MemPlace), DataW.trod enc P w 0 (fun _ => true) true fuel t cs = some x → ∃ y, d.K w y cs ∧ Wf y
theorem Opens.int {t : TypeId} {k : IntKind} (ht : P.underlying t = some (.int k)) : Opens enc P w t (Kd.int k) (fun n => (Lit.int k n).wf = true) := by
  intro fuel cs x h
  obtain ⟨n, rfl, _, hw⟩ := DataW.trod_int ht h
  exact ⟨n, rfl, hw⟩
theorem list_of {α : Type} (n : Nat) (p : Nat → α → Prop) (h : ∀ i, i < n → ∃ y, p i y) : ∃ ys : List α, ys.length = n ∧ ∀ i y, ys[i]? = some y → p i y := by
  induction n with
  | zero => exact ⟨[], rfl, fun i y hy => by simp at hy⟩
  | succ n ih =>
    obtain ⟨ys, hl, hp⟩ := ih (fun i hi => h i (by omega))
    obtain ⟨y, hy⟩ := h n (by omega)
    refine ⟨ys ++ [y], by simp [hl], fun i z hz => ?_⟩
    rcases Nat.lt_or_ge i n with hi | hi
    · rw [List.getElem?_append_left (by omega)] at hz
      exact hp i z hz
    · have hi' : i = n := by
        have := (List.getElem?_eq_some_iff.1 hz).1
        rw [List.length_append, List.length_singleton] at this
        omega
      subst hi'
      rw [← hl, List.getElem?_concat_length] at hz
      obtain rfl := Option.some.inj hz
      exact hy
theorem Opens.slice {t e : TypeId} {α : Type} {d : Kd α} {Wf : α → Prop} (ht : P.underlying t = some (.slice e)) (hc : P.cellsOf e = d.sz) (h : Opens enc P w e d Wf) :
    Opens enc P w t (Kd.slice e d) (fun xs => ∀ x ∈ xs, Wf x) := by
  intro fuel cs x hx
  rcases DataW.trod_slice ht hx with ⟨rfl, _⟩ | ⟨a, len, cap, elems, rest, n, _, rfl, _, _, hl, hm, hlen, hel, _, _⟩
  · exact ⟨[], ⟨none, 0, rfl, Nat.le_refl _, rfl, by simp, fun h0 => absurd h0 (by simp)⟩, fun _ h0 => by simp at h0⟩
  · obtain ⟨ys, hy, hp⟩ := list_of len (fun i y => ∃ c, w.cells? 0 (a.add (i * d.sz)) d.sz = some c ∧ d.K w y c ∧ Wf y) (fun i hi => by
      have h1 := hel i hi
      rw [List.getElem?_eq_getElem (by omega), Option.bind_eq_some_iff] at h1
      obtain ⟨c, h2, h3⟩ := h1
      rw [hc] at h2
      obtain ⟨y, h4, h5⟩ := h _ _ _ h3
      exact ⟨y, c, h2, h4, h5⟩)
    refine ⟨ys, ⟨some a, cap, by rw [hy], by omega, rfl, by rw [hy]; unfold maxLen at hm; omega, fun _ => ⟨a, rfl, fun j p hj => ?_⟩⟩, fun y hmem => ?_⟩
    · obtain ⟨c, h1, h2, _⟩ := hp j p hj
      refine ⟨c, d.K_len h2, h2, fun i u hu => ?_⟩
      obtain ⟨_, _, h4⟩ := World.cells?_some h1
      have hi : i < d.sz := by
        have := (List.getElem?_eq_some_iff.1 hu).1
        have := d.K_len h2
        omega
      have h5 := h4 i hi
      rw [hu] at h5
      have e5 : (a.add (j * d.sz)).add i = a.add (j * d.sz + i) := by
        unfold Addr.add
        by_cases z1 : j * d.sz = 0 <;> by_cases z2 : i = 0 <;> simp [z1, z2, Nat.add_assoc]
      rw [← e5]
      exact h5
    · obtain ⟨i, hi⟩ := List.getElem?_of_mem hmem
      obtain ⟨_, _, _, h3⟩ := hp i y hi
      exact h3
theorem Opens.imp {t : TypeId} {α : Type} {d : Kd α} {Wf Wf' : α → Prop} (h : Opens enc P w t d Wf) (hw : ∀ y, Wf y → Wf' y) : Opens enc P w t d Wf' := by
  intro fuel cs x hx
  obtain ⟨y, h1, h2⟩ := h fuel cs x hx
  exact ⟨y, h1, hw y h2⟩
theorem Opens.iso {t : TypeId} {α β : Type} {d : Kd α} {Wf : α → Prop} (f : β → α) (g : α → β) (hfg : ∀ x, f (g x) = x) (h : Opens enc P w t d Wf) : Opens enc P w t (Kd.iso d f) (fun y => Wf (f y)) := by
  intro fuel cs x hx
  obtain ⟨y, h1, h2⟩ := h fuel cs x hx
  exact ⟨g y, (show d.K w (f (g y)) cs by rw [hfg]; exact h1), (show Wf (f (g y)) by rw [hfg]; exact h2)⟩
def OpensF {H : Type} (enc : TypeId × Value → H) (P : Program) (w : World) (fs : List Field) (off : Nat) {α : Type} (d : Kd α) (Wf : α → Prop) : Prop :=
  ∀ (n : Nat) (cs : List Value) (xs : List (DataW H × List MemPlace)), cs.length = off + d.sz → xs.length = fs.length →
    (∀ (i : Nat) (f : Field), fs[i]? = some f → DataW.trod enc P w 0 (fun _ => true) true n f.type ((cs.drop f.offset).take (P.cellsOf f.type)) = xs[i]?) → ∃ y, d.K w y (cs.drop off) ∧ Wf y
theorem OpensF.one {f : Field} {off : Nat} {α : Type} {d : Kd α} {Wf : α → Prop} (ho : f.offset = off) (hc : P.cellsOf f.type = d.sz) (h : Opens enc P w f.type d Wf) : OpensF enc P w [f] off d Wf := by
  intro n cs xs hl hx hf
  have h0 := hf 0 f rfl
  rw [List.getElem?_eq_getElem (by rw [hx]; exact Nat.zero_lt_one), ho, hc, List.take_of_length_le (by rw [List.length_drop]; omega)] at h0
  exact h _ _ _ h0
theorem OpensF.cons {f : Field} {fs : List Field} {off : Nat} {α β : Type} {d : Kd α} {d' : Kd β} {Wf : α → Prop} {Wf' : β → Prop} (ho : f.offset = off) (hc : P.cellsOf f.type = d.sz) (h : Opens enc P w f.type d Wf)
    (hr : OpensF enc P w fs (off + d.sz) d' Wf') : OpensF enc P w (f :: fs) off (Kd.pair d d') (fun y => Wf y.1 ∧ Wf' y.2) := by
  intro n cs xs hl hx hf
  have hl' : cs.length = off + (d.sz + d'.sz) := hl
  have h0 := hf 0 f rfl
  cases xs with
  | nil => simp at hx
  | cons x xs =>
    rw [ho, hc] at h0
    obtain ⟨y, h1, h2⟩ := h _ _ _ h0
    obtain ⟨z, h3, h4⟩ := hr n cs xs (by omega) (by simpa using hx) (fun i g hg => hf (i + 1) g (by simpa using hg))
    refine ⟨(y, z), ⟨(cs.drop off).take d.sz, cs.drop (off + d.sz), ?_, h1, h3⟩, h2, h4⟩
    rw [← List.drop_drop, List.take_append_drop]
theorem Opens.struct {t : TypeId} {fs : Array Field} {α : Type} {d : Kd α} {Wf : α → Prop} (ht : P.underlying t = some (.struct fs)) (hc : P.cellsOf t = d.sz) (h : OpensF enc P w fs.toList 0 d Wf) : Opens enc P w t d Wf := by
  intro fuel cs x hx
  obtain ⟨xs, n, _, _, hl, hlen, hf⟩ := DataW.trod_struct ht hx
  have := h n cs xs (by omega) (by simpa using hlen) (fun i f hi => hf i f (by simpa using hi))
  simpa using this
theorem open_slice {r : Reach} {b0 : Nat} {t e : TypeId} {v : Value} {dd : DataW H} {p : List MemPlace} {α : Type} {d : Kd α} {Wf : α → Prop} (ht : P.underlying t = some (.slice e)) (hc : P.cellsOf e = d.sz) (ho : Opens enc P w e d Wf)
    (hv : Value.okWide P w r b0 t v) (h : DataW.Trod enc P w 0 (fun _ => true) true t v dd p) : ∃ xs A c, v = .slice A xs.length c ∧ xs.length ≤ c ∧ Kd.C d w A xs.length xs ∧ ∀ x ∈ xs, Wf x := by
  obtain ⟨a, len, cap, rfl⟩ := okWide_slice ht hv
  obtain ⟨fuel, hf⟩ := h
  obtain ⟨xs, ⟨A, c, he, hl, hr⟩, h2⟩ := Opens.slice ht hc ho _ _ _ hf
  have he' : (Value.slice a len cap).cells.toList = [.slice a len cap] := rfl
  rw [he'] at he
  injection he with he
  exact ⟨xs, A, c, he, hl, hr, h2⟩
end Go.Proofs.Ytimoiblediffpaa.Open
end
