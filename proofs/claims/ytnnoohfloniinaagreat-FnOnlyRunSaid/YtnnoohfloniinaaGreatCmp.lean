/- The library's sort of edges by the program's comparison: what the comparison computes, and what the sort leaves. -/
import Derived.Test.YtnnoohfloniinaaGreatRfE
import Derived.Test.YtnnoohfloniinaaGreatProg
import Derived.KernelRfl
import Derived.Test.YtnnoohfloniinaaGreatShelf
import Derived.Shelf.SlSortCmp.NoneTotal
set_option linter.unusedVariables false
namespace Go.Proofs.YtnnoohfloniinaaGreat.C
open Go.Rf Go.Proofs Go.Sort
def tySaid : Ty := (.pair (.int .i64) (.int .i64))
abbrev DSaid := Int × Int
def tyLasso : Ty := (.pair (.sl (.int .i64)) (.sl (.int .i64)))
abbrev DLasso := (Bool × List Int) × Bool × List Int
def tyl1Cur : Ty := (.pair (.sl (.int .u8)) (.pair (.int .i64) (.int .u64)))
abbrev Dl1Cur := (Bool × List Int) × Int × Int
def tyEdge : Ty := (.pair (.int .i64) tySaid)
abbrev DEdge := Int × DSaid
def tyboundsError : Ty := (.pair (.int .i64) (.pair (.int .i64) (.pair .bool (.int .u8))))
abbrev DboundsError := Int × Int × Bool × Int
def tyAuto : Ty := (.pair (.int .i64) (.pair (.sl (.int .i64)) (.pair (.sl tyEdge) (.sl (.sl (.int .i64))))))
abbrev DAuto := Int × (Bool × List Int) × (Bool × List DEdge) × Bool × List (Bool × List Int)
noncomputable def h_cmp_isNaN_int : FnH := ⟨122, Tryz.f122, (.tup (.v (.int .i64)) .unit), (.tup (.v .bool) .unit), [], [], [], [], [], none⟩
noncomputable def h_cmp_Compare_int : FnH := ⟨97, Tryz.f97, (.tup (.v (.int .i64)) (.tup (.v (.int .i64)) .unit)), (.tup (.v (.int .i64)) .unit), [], [], [], [], [], none⟩
noncomputable def h_cmp_Or_int : FnH := ⟨96, Tryz.f96, (.tup (.v (.sl (.int .i64))) .unit), (.tup (.v (.int .i64)) .unit), [], [], [(0, ⟨[(3, (.v (.int .i64))), (6, (.v (.sl (.int .i64)))), (7, (.v (.int .i64))), (8, (.v (.int .i64)))], [(.ret, [(2, (.v (.int .i64)))]), (.exit 0, [])], [3]⟩)], [], [], none⟩
noncomputable def h_impl_compareEdges : FnH := ⟨72, Tryz.f72, (.tup (.v tyEdge) (.tup (.v tyEdge) .unit)), (.tup (.v (.int .i64)) .unit), [], [], [], [], [], none⟩
def extsL : List (Nat × ExtF) := []
def tysL : List (Nat × Ty) := [(3, (.int .i64)), (25, (.sl (.int .i64))), (75, tyEdge)]
def nfsL : List (Nat × Nat) := [(75, 3)]
def cellsL : List Nat := []
def mtysL : List (Nat × (Nat × Nat)) := []
noncomputable def keysL : List (Nat × FnH) := [(122, h_cmp_isNaN_int), (97, h_cmp_Compare_int), (96, h_cmp_Or_int), (72, h_impl_compareEdges)]
def itersL : List (Nat × Nat) := []
noncomputable def H : Hints := { extF := fun f => lookupN extsL f, ty := fun T => lookupN tysL T, nf := fun T => match lookupN nfsL T with | some n => n | none => 0, cell := fun T => hasN cellsL T, key := fun k => lookupN keysL k, mty := fun T => lookupN mtysL T, iter := fun f => lookupN itersL f }
noncomputable def cmp_isNaN_int (x : Int) : Option Bool := (inf H).call 122 x
noncomputable def cmp_Compare_int (x : Int) (y : Int) : Option Int := (inf H).call 97 (x, y)
noncomputable def cmp_Or_int (vals : Bool × List Int) : Option Int := (inf H).call 96 vals
theorem key_cmp_Or_int : H.key 96 = some h_cmp_Or_int := by kernel_rfl
noncomputable def cmp_Or_int_L0 (zero : Int) (t6 : Bool × List Int) (t7 : Int) (t8 : Int) : Option (Int ⊕ Unit) := (inf H).loop 96 0 (loopCode Tryz.f96 0) (zero, (t6, (t7, t8)))
noncomputable def impl_compareEdges (a : DEdge) (b : DEdge) : Option Int := (inf H).call 72 (a, b)
theorem cmp_isNaN_int_eq (x : Int) : cmp_isNaN_int x =
 some (x != x) := Eq.trans (inf_call_eq (H := H) 122 x) (by kernel_rfl)
theorem cmp_Compare_int_eq (x : Int) (y : Int) : cmp_Compare_int x y =
(cmp_isNaN_int x).bind fun r =>
(cmp_isNaN_int y).bind fun r1 =>
 bif r then
 bif r1 then
 some 0
else 
 some (-1)
else 
 bif r1 then
 some 1
else 
 bif decide (x < y) then
 some (-1)
else 
 bif decide (x > y) then
 some 1
else 
 some 0 := Eq.trans (inf_call_eq (H := H) 97 (x, y)) (by kernel_rfl)
theorem cmp_Or_int_L0_eq (zero : Int) (t6 : Bool × List Int) (t7 : Int) (t8 : Int) : cmp_Or_int_L0 zero t6 t7 t8 =
 bif decide (t8 < t7) then
 bif decide (0 ≤ t8) then
 bif decide (t8 < (t6.2.length : Int)) then
 bif ((t6.2.getD (Int.toNat t8) 0) != zero) then
 some (.inl (t6.2.getD (Int.toNat t8) 0))
else 
(cmp_Or_int_L0 zero t6 t7 (IntKind.i64.wrap (t8 + 1))).bind fun r => some r
else none
else none
else 
 some (.inr ()) := Eq.trans (inf_loop_eq (H := H) 96 0 (loopCode Tryz.f96 0) (zero, (t6, (t7, t8))) key_cmp_Or_int) (by kernel_rfl)
theorem cmp_Or_int_eq (vals : Bool × List Int) : cmp_Or_int vals =
(cmp_Or_int_L0 0 vals (vals.2.length : Int) 0).bind fun r =>
 match r with
| .inl y =>
 some y
| .inr z =>
 some 0 := Eq.trans (inf_call_eq (H := H) 96 vals) (by kernel_rfl)
theorem impl_compareEdges_eq (a : DEdge) (b : DEdge) : impl_compareEdges a b =
(cmp_Compare_int a.1 b.1).bind fun r =>
(cmp_Compare_int a.2.1 b.2.1).bind fun r1 =>
(cmp_Compare_int a.2.2 b.2.2).bind fun r2 =>
(cmp_Or_int (false, [r, r1, r2])).bind fun r3 =>
 some r3 := Eq.trans (inf_call_eq (H := H) 72 (a, b)) (by kernel_rfl)
theorem fit : Fit Tryz.prog H := fit_of (exts := extsL) (tys := tysL) (cells := cellsL) (keys := keysL) (mtys := mtysL) rfl rfl rfl rfl rfl (iters := itersL) rfl (by kernel_rfl) (by kernel_rfl) (by kernel_rfl) ⟨⟨Tryz.func122, by kernel_rfl, by kernel_rfl⟩, ⟨Tryz.func97, by kernel_rfl, by kernel_rfl⟩, ⟨Tryz.func96, by kernel_rfl, by kernel_rfl⟩, ⟨Tryz.func72, by kernel_rfl, by kernel_rfl⟩, trivial⟩ trivial trivial (by kernel_rfl)
theorem nats : NatOk Tryz.prog H := nat_of (keys := keysL) rfl ⟨.plain rfl, .plain rfl, .plain rfl, .plain rfl, trivial⟩
def cmpI (x y : Int) : Int := if x < y then -1 else if y < x then 1 else 0
theorem cmpI_is (x y : Int) : (cmpI x y = -1 ∧ x < y) ∨ (cmpI x y = 0 ∧ x = y) ∨ (cmpI x y = 1 ∧ y < x) := by
  unfold cmpI
  by_cases h1 : x < y
  · rw [if_pos h1]
    exact .inl ⟨rfl, h1⟩
  · by_cases h2 : y < x
    · rw [if_neg h1, if_pos h2]
      exact .inr (.inr ⟨rfl, h2⟩)
    · rw [if_neg h1, if_neg h2]
      exact .inr (.inl ⟨rfl, by omega⟩)
theorem cmp_compare (x y : Int) : cmp_Compare_int x y = some (cmpI x y) := by
  have h : ∀ z : Int, cmp_isNaN_int z = some false := fun z => by rw [cmp_isNaN_int_eq]; simp
  rw [cmp_Compare_int_eq, h x, h y]
  simp only [Option.bind_some, cond_false]
  unfold cmpI
  by_cases h1 : x < y
  · simp [h1]
  · by_cases h2 : y < x <;> simp [h1, h2]
def orI (a b c : Int) : Int := if a = 0 then if b = 0 then c else b else a
theorem cmp_or (a b c : Int) : cmp_Or_int (false, [a, b, c]) = some (orI a b c) := by
  have l3 : cmp_Or_int_L0 0 (false, [a, b, c]) 3 3 = some (.inr ()) := by rw [cmp_Or_int_L0_eq]; rfl
  have l2 : cmp_Or_int_L0 0 (false, [a, b, c]) 3 2 = bif c != 0 then some (.inl c) else some (.inr ()) := by
    rw [cmp_Or_int_L0_eq, show IntKind.i64.wrap (2 + 1) = 3 by decide, l3]
    rfl
  have l1 : cmp_Or_int_L0 0 (false, [a, b, c]) 3 1 = bif b != 0 then some (.inl b) else bif c != 0 then some (.inl c) else some (.inr ()) := by
    rw [cmp_Or_int_L0_eq, show IntKind.i64.wrap (1 + 1) = 2 by decide, l2]
    cases c != 0 <;> rfl
  have l0 : cmp_Or_int_L0 0 (false, [a, b, c]) 3 0 = bif a != 0 then some (.inl a) else bif b != 0 then some (.inl b) else bif c != 0 then some (.inl c) else some (.inr ()) := by
    rw [cmp_Or_int_L0_eq, show IntKind.i64.wrap (0 + 1) = 1 by decide, l1]
    cases b != 0 <;> cases c != 0 <;> rfl
  rw [cmp_Or_int_eq]
  have l0' : cmp_Or_int_L0 0 (false, [a, b, c]) (((false, [a, b, c]) : Bool × List Int).2.length : Int) 0 = _ := l0
  rw [l0']
  unfold orI
  by_cases ha : a = 0
  · subst ha
    by_cases hb : b = 0
    · subst hb
      by_cases hc : c = 0
      · subst hc
        rfl
      · rw [show (c != 0) = true from bne_iff_ne.2 hc]
        rfl
    · rw [show (b != 0) = true from bne_iff_ne.2 hb, if_pos rfl, if_neg hb]
      rfl
  · rw [show (a != 0) = true from bne_iff_ne.2 ha, if_neg ha]
    rfl
def cmpE (x y : Int × Int × Int) : Int := orI (cmpI x.1 y.1) (cmpI x.2.1 y.2.1) (cmpI x.2.2 y.2.2)
theorem compare_eq (x y : Int × Int × Int) : impl_compareEdges x y = some (cmpE x y) := by
  rw [impl_compareEdges_eq, cmp_compare, cmp_compare, cmp_compare]
  simp only [Option.bind_some, cmp_or]
  rfl
theorem le3_is (x y : Int × Int × Int) : le3 x y = true ↔ x.1 < y.1 ∨ (x.1 = y.1 ∧ (x.2.1 < y.2.1 ∨ (x.2.1 = y.2.1 ∧ x.2.2 ≤ y.2.2))) := by
  simp only [le3, Bool.or_eq_true, Bool.and_eq_true, decide_eq_true_eq]
theorem cmpE_lt (x y : Int × Int × Int) : cmpE x y < 0 ↔ ¬ le3 y x = true := by
  rw [le3_is]
  unfold cmpE
  rcases cmpI_is x.1 y.1 with ⟨e1, h1⟩ | ⟨e1, h1⟩ | ⟨e1, h1⟩ <;> rcases cmpI_is x.2.1 y.2.1 with ⟨e2, h2⟩ | ⟨e2, h2⟩ | ⟨e2, h2⟩ <;> rcases cmpI_is x.2.2 y.2.2 with ⟨e3, h3⟩ | ⟨e3, h3⟩ | ⟨e3, h3⟩ <;> rw [e1, e2, e3] <;> simp only [orI] <;> (first | (simp; omega) | omega)
abbrev A3 := { e : Int × Int × Int // In3 e }
instance : Inhabited A3 := ⟨⟨(0, 0, 0), by unfold In3; exact ⟨by decide, by decide, by decide⟩⟩⟩
def encA (e : A3) : List Value := enc3 e.1
def cfA (x y : A3) : Int := cmpE x.1 y.1
theorem ltA (x y : A3) : ltOf cfA x y = !le3 y.1 x.1 := by
  unfold ltOf cfA
  have := cmpE_lt x.1 y.1
  cases h : le3 y.1 x.1 with
  | true => simp [this, h]
  | false => simp [this, h]
theorem swoA : SWO (ltOf cfA) where
  irrefl x := by
    rw [ltA]
    have : le3 x.1 x.1 = true := by rw [le3_is]; omega
    rw [this]
    rfl
  trans x y z h1 h2 := by
    rw [ltA] at *
    simp only [Bool.not_eq_true'] at *
    rw [← Bool.not_eq_true, le3_is] at *
    omega
  ntrans x y z h1 h2 := by
    rw [ltA] at *
    simp only [Bool.not_eq_false'] at *
    rw [le3_is] at *
    omega
theorem totA (x y : A3) (h1 : ltOf cfA x y = false) (h2 : ltOf cfA y x = false) : x = y := by
  rw [ltA] at *
  simp only [Bool.not_eq_false'] at *
  rw [le3_is] at *
  exact Subtype.ext (Prod.ext (by omega) (Prod.ext (by omega) (by omega)))
theorem flatA (ds : List A3) : flatK encA 3 ds.toArray = flatK enc3 3 (ds.map Subtype.val).toArray := by
  refine ext_get! (by simp) fun t ht => ?_
  have ht' : t < ds.length * 3 := by simpa using ht
  rw [get_flatK _ _ _ _ (by simpa using ht'), get_flatK _ _ _ _ (by simpa using ht')]
  have hi : t / 3 < ds.length := by omega
  simp [encA, hi]
theorem cellsA (x : A3) : ∀ v ∈ encA x, v.oneCell' = true := by
  intro v hv
  simp only [encA, enc3, List.mem_cons, List.not_mem_nil, or_false] at hv
  rcases hv with rfl | rfl | rfl <;> rfl
theorem repA {w : World} {S : Nat → Prop} (x : A3) : Rep w S false tyEdge x.1 (encA x) := ⟨[_], [_, _], rfl, ⟨rfl, x.2.1⟩, [_], [_], rfl, ⟨rfl, x.2.2.1⟩, rfl, x.2.2.2⟩
theorem laysA (blk off size : Nat) (w : World) : CmpLays Tryz.prog 72 #[] encA 3 cfA blk off size w := by
  intro m os dk _ x y
  have h := num_calls (P := Tryz.prog) (w := sortWorldK encA 3 w blk off m dk os) fit nats (key := 72) (h := h_impl_compareEdges) (x := (x.1, y.1)) (y := cmpE x.1 y.1) (sv := .tup (.v tyEdge x.1) (.tup (.v tyEdge y.1) .unit)) (c := cmpE x.1 y.1) (by kernel_rfl) (compare_eq x.1 y.1) (by kernel_rfl) (by kernel_rfl) (by kernel_rfl) (vs := [.agg (encA x).toArray, .agg (encA y).toArray])
    (by
      simp only [CRep]
      exact ⟨_, _, rfl, .inr (.inl ⟨rfl, _, rfl, repA x⟩), _, _, rfl, .inr (.inl ⟨rfl, _, rfl, repA y⟩), rfl⟩)
  exact h
theorem sortfOk : SortFOk Tryz.prog 71 72 := by
  intro blk off cap zs w hin hH hblk hlen
  have hag : agOf H 75 = some (true, 3) := by kernel_rfl
  obtain ⟨ds, hds⟩ : ∃ ds : List A3, ds.map Subtype.val = zs := ⟨zs.attach.map fun e => ⟨e.1, hin e.1 e.2⟩, by rw [List.map_map]; exact List.attach_map_subtype_val zs⟩
  have hl : ds.length = zs.length := by rw [← hds, List.length_map]
  have h := AnyQ.slices_SortFunc_total Tryz.sortE 3 (fun w => (run_ag (w := w) fit hag).1) (fun w => (run_ag (w := w) fit hag).2) encA (fun _ => rfl) cellsA cfA swoA 72 #[] blk off cap ds.toArray w (fun args w => run_callFunc fit (key := 72) (h := h_impl_compareEdges) (by kernel_rfl) args) (laysA blk off _ w)
    (by
      show Holds id w blk off (flatK encA 3 ds.toArray)
      rw [flatA, hds]
      exact hH) hblk (by simp only [List.size_toArray]; omega) totA
  change Calls Tryz.prog 71 _ _ _ at h
  have e1 : (ds.toArray.size) = zs.length := by simp [hl]
  rw [e1] at h
  refine h.mono fun e w' hq => ?_
  obtain ⟨he, n, os, rfl⟩ := hq
  refine ⟨he, n, os, ?_⟩
  have hm : (ds.mergeSort fun x y => !(ltOf cfA) y x).map Subtype.val = zs.mergeSort le3 := by
    rw [← hds]
    exact List.map_mergeSort fun a _ b _ => by rw [ltA, Bool.not_not]
  unfold sortWorldK putRowK
  rw [show (ds.toArray.toList.mergeSort fun x y => !(ltOf cfA) y x) = (ds.mergeSort fun x y => !(ltOf cfA) y x) from rfl, flatA, hm]
end Go.Proofs.YtnnoohfloniinaaGreat.C
namespace Go.Proofs
theorem Tryz.sortfOk : Go.Rf.SortFOk Tryz.prog 71 72 := YtnnoohfloniinaaGreat.C.sortfOk
end Go.Proofs
