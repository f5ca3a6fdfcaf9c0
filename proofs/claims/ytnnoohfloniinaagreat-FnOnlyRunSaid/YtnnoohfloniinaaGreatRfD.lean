/- An evaluator over the code of the given program, and its soundness: part 4. -/
import Derived.Test.YtnnoohfloniinaaGreatRfC
import Derived.Sort.Row
import Derived.Sort.Grow
import Derived.Lib.SlicesCompact
import Derived.Shelf.GgSortFunc.RowK
set_option linter.all false
namespace Go.Rf
open Go.Sort

/-- what the library's sort does to a row of whole numbers -/
def SortOk (P : Program) (f : Nat) : Prop := ∀ (blk off cap : Nat) (zs : List Int) (w : World), Holds (Value.int .i64) w blk off zs.toArray → blk < w.heap.size → zs.length < 4611686018427387904 →
  Calls P f #[.slice (some ⟨blk, off, none⟩) zs.length cap] w fun e w' => e = .returned (.tuple #[]) ∧ ∃ n os, w' = grow (putRow (Value.int .i64) (Sort.ahead w n) blk off (zs.mergeSort fun x y => decide (x ≤ y)).toArray) os

section
variable {P : Program} {H : Hints} {w : World} {S : Nat → Prop} {hv : Nat → Value} {F : Nat → Nat → Prop} {g : Look}

theorem putCells_at (arr : Array Value) (off : Nat) (zs : List Int) (k : Nat) (hk : k < zs.length) (hf : off + zs.length ≤ arr.size) : (putCells (Value.int .i64) off zs.toArray arr)[off + k]? = some (.int .i64 (zs[k])) := by
  unfold putCells
  rw [Array.getElem?_mapIdx, Array.getElem?_eq_getElem (by omega)]
  simp [hk]

/-- an own row of whole numbers, sorted by the library -/
theorem sort_step (hI : Inv w S hv F g) {c : Nat} {dp : Bool} {xs : List Int} (hc : g c = some (.row (.int .i64) dp false xs)) (hl : xs.length ≤ lim) :
    ∃ b o cap, hv c = .slice (some ⟨b, o, none⟩) xs.length cap ∧ Holds (Value.int .i64) w b o xs.toArray ∧ b < w.heap.size ∧ ∀ n os, ∃ S' hv' F', Step' w S hv F g (grow (putRow (Value.int .i64) (Sort.ahead w n) b o (xs.mergeSort fun x y => decide (x ≤ y)).toArray) os) S' hv' F' (updReg g [(c, .row (.int .i64) true false (xs.mergeSort fun x y => decide (x ≤ y)))]) := by
  have hr := hI.rep c _ hc
  simp only [GRep] at hr
  rcases hr with ⟨h, _⟩ | ⟨_, b, o, cap, arr, T, G, h1, h2, h3, h4, h5, h6, h7, h8, h9⟩
  · cases h
  have hsz : Rf.size (.int .i64) = 1 := rfl
  rw [hsz, Nat.mul_one] at h5
  have hb : b < w.heap.size := hI.old c b h6
  have hcell : ∀ (i : Nat) (hi : i < xs.length), w.cell? ⟨b, o + i, none⟩ = some (.int .i64 xs[i]) ∧ IntKind.i64.min ≤ xs[i] ∧ xs[i] ≤ IntKind.i64.max ∧ o + i < arr.size := by
    intro i hi
    obtain ⟨cs, q1, q2, q3⟩ := h9 i xs[i] (List.getElem?_eq_getElem hi)
    have q4 : cs = [.int .i64 xs[i]] ∧ IntKind.i64.min ≤ xs[i] ∧ xs[i] ≤ IntKind.i64.max := by
      cases dp with
      | true => exact q3
      | false => exact q3
    obtain ⟨rfl, q5, q6⟩ := q4
    rw [hsz, Nat.mul_one] at q2
    have q7 := q2 0 (.int .i64 xs[i]) rfl
    exact ⟨q7, q5, q6, Nat.lt_of_lt_of_le (Nat.add_lt_add_left (Nat.lt_of_lt_of_le hi h2) o) h5⟩
  have hperm := List.mergeSort_perm xs (fun x y => decide (x ≤ y))
  have hlen : (xs.mergeSort fun x y => decide (x ≤ y)).length = xs.length := hperm.length_eq
  refine ⟨b, o, cap, h1, fun j hj => ?_, hb, fun n os => ?_⟩
  · have hj' : j < xs.length := by simpa using hj
    obtain ⟨q1, _⟩ := hcell j hj'
    refine ⟨by rw [q1]; simp [hj'], by simp [World.frozen?, h4]⟩
  · generalize hy : (xs.mergeSort fun x y => decide (x ≤ y)) = ys at hperm hlen ⊢
    have hbk : (grow (putRow (Value.int .i64) (Sort.ahead w n) b o ys.toArray) os).heap[b]? = some (.cells (putCells (Value.int .i64) o ys.toArray arr) T (0, 0)) := by
      rw [heap_grow_old _ _ (by simpa using hb)]
      simp [putRow, mapBlock, Sort.ahead, Array.getElem?_modify, h4, onCells]
    have hother : ∀ b', b' < w.heap.size → b' ≠ b → (grow (putRow (Value.int .i64) (Sort.ahead w n) b o ys.toArray) os).heap[b']? = w.heap[b']? := by
      intro b' hb' hne
      rw [heap_grow_old _ _ (by simpa using hb')]
      have : ¬ b = b' := fun e => hne e.symm
      simp [putRow, mapBlock, Sort.ahead, Array.getElem?_modify, this]
    have hsize : w.heap.size ≤ (grow (putRow (Value.int .i64) (Sort.ahead w n) b o ys.toArray) os).heap.size := by
      simp [grow, putRow, mapBlock, Sort.ahead]
    have hg' : updReg g [(c, .row (.int .i64) true false ys)] c = some (.row (.int .i64) true false ys) := by rw [updReg_cons, if_pos rfl]
    refine ⟨S, hv, F, mkStep hI (fun c' => c' = c) (fun c' hne => by rw [updReg_cons, if_neg hne, updReg_nil]) (fun _ _ => rfl) hsize (fun b' hb' hn => hother b' hb' (fun e => hn c rfl (e ▸ h6))) (fun _ h => h) (fun _ _ => rfl) (fun c' hc' _ => by rw [hc', hg']; exact fun h => by cases h) ?_ ?_ ?_ (fun c' b' hc' hF => .inl ⟨c', hc', hF⟩) (fun c' b' _ hF => Nat.lt_of_lt_of_le (hI.old c' b' hF) hsize) (fun c1 c2 b' e1 e2 _ _ => by rw [e1, e2]) (fun b' h => .inl h) (fun b' h => Nat.lt_of_lt_of_le (hI.sold b' h) hsize) (fun c' b' _ hF => hI.shr c' b' hF) ⟨rfl, rfl, rfl, Nat.le_add_right _ _⟩⟩
    · intro c' m hc' _ hm
      rw [hc'] at hm ⊢
      simp only [glen, hg', hc, Rg.len] at hm ⊢
      rw [← hlen]
      exact hm
    · intro hx c' r hc' hr'
      rw [hc', hg'] at hr'
      cases hr'
      rw [hc']
      simp only [GRep]
      refine .inr ⟨rfl, b, o, cap, _, T, fun _ _ => False, by rw [h1, hlen], by rw [hlen]; exact h2, by rw [hlen]; exact h3, hbk, by rw [hsz, Nat.mul_one]; simp only [putCells, Array.size_mapIdx]; exact h5, h6, fun _ _ h => h.elim, fun _ _ _ h => h.elim, fun i e he => ?_⟩
      have hi : i < ys.length := (List.getElem?_eq_some_iff.1 he).1
      have hin : e ∈ xs := hperm.mem_iff.1 (List.mem_of_getElem? he)
      obtain ⟨k, hk, hke⟩ := List.getElem_of_mem hin
      obtain ⟨_, q5, q6, _⟩ := hcell k hk
      rw [hke] at q5 q6
      refine ⟨[.int .i64 e], rfl, ?_, ?_⟩
      · rw [hsz, Nat.mul_one]
        refine (rd_iff hbk).2 fun j v hj => ?_
        cases j with
        | zero =>
          have : v = .int .i64 e := by simpa using hj.symm
          subst this
          have hee : ys[i] = e := by rw [List.getElem?_eq_getElem hi] at he; exact Option.some.inj he
          rw [Nat.add_zero, ← hee]
          exact putCells_at arr o ys i hi (by rw [hlen]; exact Nat.le_trans (Nat.add_le_add_left h2 o) h5)
        | succ j => simp at hj
      · exact ⟨rfl, q5, q6⟩
    · intro c' b' hc' hF
      rw [hc', hg']
      exact ⟨_, rfl, rfl⟩
end

/-- the sort, as the evaluator answers it -/
def sortI (x : Bool × List Int) : Option (Bool × List Int) := bif x.1 then none else bif decide (x.2.length ≤ lim) then some (false, x.2.mergeSort fun a b => decide (a ≤ b)) else none

def sortH (fid : Nat) (f : Func) (c : Nat) : FnH := ⟨fid, f, .tup (.own c (.int .i64) false) .unit, .tup (.own c (.int .i64) true) .unit, [c], [], [], [], [], some sortI⟩

theorem natFun_spec {H : Hints} {h : FnH} {f : Den (tyOf h.pars.tys) → Option (Den (tyOf h.outs.tys))} {key : Nat} {x : Den (tyOf (aTys H key))} {y : Den (tyOf (rTys H key))} (he : natFun H h f key x = some y) :
    ∃ a b, unpack (aTys H key) x = unpack h.pars.tys a ∧ f a = some b ∧ unpack (rTys H key) y = unpack h.outs.tys b := by
  unfold natFun at he
  split at he
  · rename_i a ha
    split at he
    · rename_i b hb
      exact ⟨a, b, (unpack_pack _ _ _ ha).symm, hb, unpack_pack _ _ _ he⟩
    · cases he
  · cases he

theorem sort_call {P : Program} {H : Hints} {key fid c : Nat} {f : Func} (hs : SortOk P fid) (hk : H.key key = some (sortH fid f c)) {x : Den (tyOf (aTys H key))} {y : Den (tyOf (rTys H key))} (he : natFun H (sortH fid f c) sortI key x = some y) : CallOk P H key x y := by
  intro h hk'
  rw [hk] at hk'
  obtain rfl := Option.some.inj hk'
  obtain ⟨a, b, e1, e2, e3⟩ := natFun_spec he
  obtain ⟨n, xs⟩ : Bool × List Int := a
  obtain ⟨m, ys⟩ : Bool × List Int := b
  have e2' : sortI (n, xs) = some (m, ys) := e2
  unfold sortI at e2'
  cases n with
  | true => cases e2'
  | false =>
  simp only [cond_false] at e2'
  cases hl : decide (xs.length ≤ lim) with
  | false => rw [hl] at e2'; cases e2'
  | true =>
  rw [hl] at e2'
  simp only [cond_true, Option.some.injEq, Prod.mk.injEq] at e2'
  obtain ⟨rfl, rfl⟩ := e2'
  have hlen : xs.length ≤ lim := of_decide_eq_true hl
  refine ⟨⟨.tup (.ref c) .unit, [(c, .row (.int .i64) false false xs)], []⟩, by rw [e1]; rfl, by simp [sortH, SS.ids], by simp [sortH, SS.ids], rfl, fun w S hv F vs hI hc => ?_⟩
  simp only [CRep] at hc
  obtain ⟨p, r, rfl, hp, rfl⟩ := hc
  have hp' : p = hv c := by
    rcases hp with hp | ⟨hp, _⟩ | ⟨_, hp⟩
    · cases hp
    · cases hp
    · have h3 := hp.2.2
      simpa using h3
  subst hp'
  obtain ⟨b, o, cap, h1, h2, h3, h4⟩ := sort_step hI (c := c) (dp := false) (xs := xs) (by rw [updReg_cons, if_pos rfl]) hlen
  rw [h1]
  refine (hs b o cap xs w h2 h3 (Nat.lt_of_le_of_lt hlen (by decide))).mono fun e w' hq => ?_
  obtain ⟨rfl, n, os, rfl⟩ := hq
  obtain ⟨S', hv', F', hst⟩ := h4 n os
  refine ⟨_, ⟨.tup (.ref c) .unit, [(c, .row (.int .i64) true false (xs.mergeSort fun a b => decide (a ≤ b)))], []⟩, rfl, by rw [e3]; rfl, S', hv', F', ?_, rfl⟩
  have hg : updReg (updReg (fun _ => none) [(c, .row (.int .i64) false false xs)]) [(c, .row (.int .i64) true false (xs.mergeSort fun x y => decide (x ≤ y)))] = updReg (fun _ => none) [(c, .row (.int .i64) true false (xs.mergeSort fun x y => decide (x ≤ y)))] := by
    funext c'
    by_cases hcc : c' = c
    · subst hcc; rw [updReg_cons, if_pos rfl, updReg_cons, if_pos rfl]
    · rw [updReg_cons, if_neg hcc, updReg_nil, updReg_cons, if_neg hcc, updReg_nil, updReg_cons, if_neg hcc, updReg_nil]
  rw [hg] at hst
  exact ⟨hst.inv, hst.ext.sub, fun c' h1 _ => hst.ext.hv c' h1, hst.bS, fun c' b' hb => hst.bF c' b' hb, hst.fr, hst.sz, hst.st⟩

/-- what the library's compaction does to a row of whole numbers -/
def CompactOk (P : Program) (f : Nat) : Prop := ∀ (blk off cap : Nat) (zs : List Int) (w : World), Holds (Value.int .i64) w blk off zs.toArray → zs.length ≤ 9223372036854775807 → zs.length ≤ cap →
  Calls P f #[.slice (some ⟨blk, off, none⟩) zs.length cap] w fun e w' => e = .returned (.slice (some ⟨blk, off, none⟩) (Lib.compact zs).length cap) ∧ ∃ q, w' = putRow (Value.int .i64) (Sort.ahead w q) blk off (Lib.compact zs ++ List.replicate (zs.length - (Lib.compact zs).length) 0).toArray

def compactI (x : Bool × List Int) : Option (Bool × List Int) := bif x.1 then none else bif decide (x.2.length ≤ lim) then some (false, Lib.compact x.2) else none

def compactH (fid : Nat) (f : Func) (c c2 : Nat) : FnH := ⟨fid, f, .tup (.own c (.int .i64) false) .unit, .tup .any (.tup (.own c2 (.int .i64) true) .unit), [c], [], [], [], [], some compactI⟩

theorem compact_mem {zs : List Int} : ∀ x ∈ Lib.compact zs, x ∈ zs := by
  intro x hx
  unfold Lib.compact Lib.compactUpTo at hx
  obtain ⟨i, hi, rfl⟩ := List.mem_map.1 hx
  have hi' : i < zs.length := by simpa using (List.mem_filter.1 hi).1
  simp [hi']

theorem compact_len (zs : List Int) : (Lib.compact zs).length ≤ zs.length := by
  unfold Lib.compact Lib.compactUpTo
  rw [List.length_map]
  exact Nat.le_trans (List.length_filter_le _ _) (by simp)

/-- a row of whole numbers, compacted by the library: a row of its own comes back in the old one's place -/
theorem compact_step {P : Program} {w : World} {S : Nat → Prop} {hv : Nat → Value} {F : Nat → Nat → Prop} {c c2 : Nat} (hne : c ≠ c2) {xs : List Int}
    (hI : Inv w S hv F (updReg (fun _ => none) [(c, .row (.int .i64) false false xs)])) :
    ∃ b o cap, hv c = .slice (some ⟨b, o, none⟩) xs.length cap ∧ Holds (Value.int .i64) w b o xs.toArray ∧ xs.length ≤ cap ∧ ∀ q, ∃ S' hv' F',
      Ends w S hv F (updReg (fun _ => none) [(c, .row (.int .i64) false false xs)]) (putRow (Value.int .i64) (Sort.ahead w q) b o (Lib.compact xs ++ List.replicate (xs.length - (Lib.compact xs).length) 0).toArray) S' hv' F' (updReg (fun _ => none) [(c2, .row (.int .i64) true false (Lib.compact xs))]) ∧
      hv' c2 = .slice (some ⟨b, o, none⟩) (Lib.compact xs).length cap := by
  have hr := hI.rep c _ (by rw [updReg_cons, if_pos rfl])
  simp only [GRep] at hr
  rcases hr with ⟨h, _⟩ | ⟨_, b, o, cap, arr, T, G, h1, h2, h3, h4, h5, h6, h7, h8, h9⟩
  · cases h
  have hsz : Rf.size (.int .i64) = 1 := rfl
  rw [hsz, Nat.mul_one] at h5
  have hb : b < w.heap.size := hI.old c b h6
  have hcell : ∀ (i : Nat) (hi : i < xs.length), w.cell? ⟨b, o + i, none⟩ = some (.int .i64 xs[i]) ∧ IntKind.i64.min ≤ xs[i] ∧ xs[i] ≤ IntKind.i64.max := by
    intro i hi
    obtain ⟨cs, q1, q2, q3⟩ := h9 i xs[i] (List.getElem?_eq_getElem hi)
    obtain ⟨rfl, q5, q6⟩ := q3
    rw [hsz, Nat.mul_one] at q2
    exact ⟨q2 0 (.int .i64 xs[i]) rfl, q5, q6⟩
  have hlen := compact_len xs
  refine ⟨b, o, cap, h1, fun j hj => ?_, h2, fun q => ?_⟩
  · have hj' : j < xs.length := by simpa using hj
    obtain ⟨q1, _⟩ := hcell j hj'
    refine ⟨by rw [q1]; simp [hj'], by simp [World.frozen?, h4]⟩
  · generalize hy : Lib.compact xs = ys at hlen ⊢
    generalize hz : (ys ++ List.replicate (xs.length - ys.length) 0) = zs
    have hzl : zs.length = xs.length := by rw [← hz]; simp; omega
    have hbk : (putRow (Value.int .i64) (Sort.ahead w q) b o zs.toArray).heap[b]? = some (.cells (putCells (Value.int .i64) o zs.toArray arr) T (0, 0)) := by
      simp [putRow, mapBlock, Sort.ahead, Array.getElem?_modify, h4, onCells]
    have hother : ∀ b', b' ≠ b → (putRow (Value.int .i64) (Sort.ahead w q) b o zs.toArray).heap[b']? = w.heap[b']? := by
      intro b' hn
      have : ¬ b = b' := fun e => hn e.symm
      simp [putRow, mapBlock, Sort.ahead, Array.getElem?_modify, this]
    have hsize : (putRow (Value.int .i64) (Sort.ahead w q) b o zs.toArray).heap.size = w.heap.size := by simp [putRow, mapBlock, Sort.ahead]
    have hg2 : ∀ k r, updReg (fun _ => none) [(c2, (Rg.row (.int .i64) true false ys : Rg))] k = some r → k = c2 ∧ r = .row (.int .i64) true false ys := by
      intro k r hk
      by_cases hc : k = c2
      · rw [hc, updReg_cons, if_pos rfl] at hk; exact ⟨hc, (Option.some.inj hk).symm⟩
      · rw [updReg_cons, if_neg hc, updReg_nil] at hk; cases hk
    refine ⟨S, fun k => if k = c2 then .slice (some ⟨b, o, none⟩) ys.length cap else hv k, fun k b' => k = c2 ∧ F c b', ⟨⟨?_, ?_, ?_, ?_, ?_, ?_⟩, fun _ h => h, ?_, fun _ h => .inl h, fun k b' h => .inl ⟨c, h.2⟩, ?_, Nat.le_of_eq hsize.symm, ⟨rfl, rfl, rfl, Nat.le_add_right _ _⟩⟩, by simp⟩
    · intro k r hk
      obtain ⟨rfl, rfl⟩ := hg2 k r hk
      simp only [GRep, if_true]
      refine .inr ⟨rfl, b, o, cap, _, T, fun _ _ => False, rfl, Nat.le_trans hlen h2, Nat.le_trans hlen h3, hbk, by rw [hsz, Nat.mul_one]; simp only [putCells, Array.size_mapIdx]; exact h5, ⟨trivial, h6⟩, fun _ _ h => h.elim, fun _ _ _ h => h.elim, fun i e he => ?_⟩
      have hi : i < ys.length := (List.getElem?_eq_some_iff.1 he).1
      have hin : e ∈ xs := compact_mem e (by rw [hy]; exact List.mem_of_getElem? he)
      obtain ⟨j, hj, hje⟩ := List.getElem_of_mem hin
      obtain ⟨_, q5, q6⟩ := hcell j hj
      rw [hje] at q5 q6
      refine ⟨[.int .i64 e], rfl, ?_, ⟨rfl, q5, q6⟩⟩
      rw [hsz, Nat.mul_one]
      refine (rd_iff hbk).2 fun j' v hj' => ?_
      cases j' with
      | zero =>
        have : v = .int .i64 e := by simpa using hj'.symm
        subst this
        have hee : zs[i]'(by omega) = e := by
          have h10 : zs[i]? = some e := by rw [← hz, List.getElem?_append_left hi]; exact he
          rw [List.getElem?_eq_getElem (by omega)] at h10
          exact Option.some.inj h10
        rw [Nat.add_zero, ← hee]
        exact putCells_at arr o zs i (by omega) (by rw [hzl]; exact Nat.le_trans (Nat.add_le_add_left h2 o) h5)
      | succ j' => simp at hj'
    · rintro k b' ⟨rfl, _⟩
      exact ⟨_, by rw [updReg_cons, if_pos rfl], rfl⟩
    · rintro k k' b' ⟨rfl, _⟩ ⟨rfl, _⟩; rfl
    · rintro k b' ⟨_, h⟩; exact hI.shr c b' h
    · rintro k b' ⟨_, h⟩; rw [hsize]; exact hI.old c b' h
    · intro b' h; rw [hsize]; exact hI.sold b' h
    · intro k hk1 hk2
      obtain ⟨r, hr⟩ := Option.ne_none_iff_exists'.1 hk2
      obtain ⟨rfl, _⟩ := hg2 k r hr
      refine absurd ?_ hk1
      rw [updReg_cons, if_neg (fun e => hne e.symm), updReg_nil]
    · intro b' _ hn
      exact hother b' (fun e => hn c (e ▸ h6))

theorem compact_call {P : Program} {H : Hints} {key fid c c2 : Nat} {f : Func} (hne : c ≠ c2) (hs : CompactOk P fid) (hk : H.key key = some (compactH fid f c c2)) {x : Den (tyOf (aTys H key))} {y : Den (tyOf (rTys H key))} (he : natFun H (compactH fid f c c2) compactI key x = some y) : CallOk P H key x y := by
  intro h hk'
  rw [hk] at hk'
  obtain rfl := Option.some.inj hk'
  obtain ⟨a, b, e1, e2, e3⟩ := natFun_spec he
  obtain ⟨n, xs⟩ : Bool × List Int := a
  obtain ⟨m, ys⟩ : Bool × List Int := b
  have e2' : compactI (n, xs) = some (m, ys) := e2
  unfold compactI at e2'
  cases n with
  | true => cases e2'
  | false =>
  simp only [cond_false] at e2'
  cases hl : decide (xs.length ≤ lim) with
  | false => rw [hl] at e2'; cases e2'
  | true =>
  rw [hl] at e2'
  simp only [cond_true, Option.some.injEq, Prod.mk.injEq] at e2'
  obtain ⟨rfl, rfl⟩ := e2'
  have hlen : xs.length ≤ lim := of_decide_eq_true hl
  refine ⟨⟨.tup (.ref c) .unit, [(c, .row (.int .i64) false false xs)], []⟩, by rw [e1]; rfl, by simp [compactH, SS.ids], by simp [compactH, SS.ids], rfl, fun w S hv F vs hI hc => ?_⟩
  simp only [CRep] at hc
  obtain ⟨p, r, rfl, hp, rfl⟩ := hc
  have hp' : p = hv c := by
    rcases hp with hp | ⟨hp, _⟩ | ⟨_, hp⟩
    · cases hp
    · cases hp
    · have h3 := hp.2.2
      simpa using h3
  subst hp'
  obtain ⟨b, o, cap, h1, h2, h3, h4⟩ := compact_step (P := P) hne hI
  rw [h1]
  refine (hs b o cap xs w h2 (Nat.le_trans hlen (by decide)) h3).mono fun e w' hq => ?_
  obtain ⟨rfl, q, rfl⟩ := hq
  obtain ⟨S', hv', F', hE, hV⟩ := h4 q
  refine ⟨_, ⟨.tup .dead (.tup (.ref c2) .unit), [(c2, .row (.int .i64) true false (Lib.compact xs))], []⟩, rfl, by rw [e3]; rfl, S', hv', F', hE, ?_⟩
  refine .inr (.inr ⟨rfl, ?_⟩)
  show _ ∧ _ ∧ _
  rw [hV]
  refine ⟨?_, rfl, rfl⟩
  rw [updReg_cons, if_pos rfl]
  simp

/-! ### the library's sort by a comparing function, at rows of three whole numbers -/
abbrev E3 : Ty := .pair (.int .i64) (.pair (.int .i64) (.int .i64))
def enc3 (x : Int × Int × Int) : List Value := [.int .i64 x.1, .int .i64 x.2.1, .int .i64 x.2.2]
/-- not behind, by the first number, then the second, then the third -/
def le3 (x y : Int × Int × Int) : Bool := decide (x.1 < y.1) || (decide (x.1 = y.1) && (decide (x.2.1 < y.2.1) || (decide (x.2.1 = y.2.1) && decide (x.2.2 ≤ y.2.2))))
def In3 (e : Int × Int × Int) : Prop := (IntKind.i64.min ≤ e.1 ∧ e.1 ≤ IntKind.i64.max) ∧ (IntKind.i64.min ≤ e.2.1 ∧ e.2.1 ≤ IntKind.i64.max) ∧ IntKind.i64.min ≤ e.2.2 ∧ e.2.2 ≤ IntKind.i64.max
/-- what the library's sort does to a row of three whole numbers each, compared by function k -/
def SortFOk (P : Program) (f k : Nat) : Prop := ∀ (blk off cap : Nat) (zs : List (Int × Int × Int)) (w : World), (∀ e ∈ zs, In3 e) → Holds id w blk off (flatK enc3 3 zs.toArray) → blk < w.heap.size → zs.length < 4611686018427387904 →
  Calls P f #[.slice (some ⟨blk, off, none⟩) zs.length cap, .func (.func k) #[] #[]] w fun e w' => e = .returned (.tuple #[]) ∧ ∃ n os, w' = grow (putRow id (Sort.ahead w n) blk off (flatK enc3 3 (zs.mergeSort le3).toArray)) os
theorem erep3 {w : World} {S : Nat → Prop} {dp : Bool} {e : Int × Int × Int} {G : Nat → Prop} {c : List Value} (h : ERep w S dp E3 e G c) : c = enc3 e ∧ In3 e := by
  cases dp with
  | true =>
    simp only [ERep, DRep] at h
    obtain ⟨c1, d1, _, _, rfl, _, _, _, ⟨rfl, b1⟩, c2, d2, _, _, rfl, _, _, _, ⟨rfl, b2⟩, rfl, b3⟩ := h
    exact ⟨rfl, b1, b2, b3⟩
  | false =>
    simp only [ERep, Rep] at h
    obtain ⟨c1, d1, rfl, ⟨rfl, b1⟩, c2, d2, rfl, ⟨rfl, b2⟩, rfl, b3⟩ := h
    exact ⟨rfl, b1, b2, b3⟩
theorem drep3 {w : World} {e : Int × Int × Int} {G : Nat → Prop} (h : In3 e) : DRep w E3 e G (enc3 e) := by
  simp only [DRep]
  exact ⟨[_], [_, _], fun _ => False, fun _ => False, rfl, fun _ h => h.elim, fun _ h => h.elim, fun _ h => h.elim, ⟨rfl, h.1⟩, [_], [_], fun _ => False, fun _ => False, rfl, fun _ h => h.elim, fun _ h => h.elim, fun _ h => h.elim, ⟨rfl, h.2.1⟩, rfl, h.2.2⟩
theorem flat3 (zs : List (Int × Int × Int)) (i j : Nat) (hi : i < zs.length) (hj : j < 3) : (flatK enc3 3 zs.toArray)[i * 3 + j]! = (enc3 zs[i])[j]! := by
  have e1 : (i * 3 + j) / 3 = i := by omega
  have e2 : (i * 3 + j) % 3 = j := by omega
  rw [get_flatK _ _ _ _ (by simp only [List.size_toArray]; omega), e1, e2]
  simp [hi]
section
variable {P : Program} {H : Hints} {w : World} {S : Nat → Prop} {hv : Nat → Value} {F : Nat → Nat → Prop} {g : Look}
theorem putCells_at3 (arr : Array Value) (off : Nat) (X : Array Value) (k : Nat) (hk : k < X.size) (hf : off + X.size ≤ arr.size) : (putCells id off X arr)[off + k]? = some X[k]! := by
  unfold putCells
  rw [Array.getElem?_mapIdx, Array.getElem?_eq_getElem (by omega)]
  simp [hk]
/-- an own row of three whole numbers each, sorted by the library -/
theorem sortf_step (hI : Inv w S hv F g) {c : Nat} {dp : Bool} {xs : List (Int × Int × Int)} (hc : g c = some (.row E3 dp false xs)) :
    ∃ b o cap, hv c = .slice (some ⟨b, o, none⟩) xs.length cap ∧ (∀ e ∈ xs, In3 e) ∧ Holds id w b o (flatK enc3 3 xs.toArray) ∧ b < w.heap.size ∧ ∀ n os, ∃ S' hv' F', Step' w S hv F g (grow (putRow id (Sort.ahead w n) b o (flatK enc3 3 (xs.mergeSort le3).toArray)) os) S' hv' F' (updReg g [(c, .row E3 true false (xs.mergeSort le3))]) := by
  have hr := hI.rep c _ hc
  simp only [GRep] at hr
  rcases hr with ⟨h, _⟩ | ⟨_, b, o, cap, arr, T, G, h1, h2, h3, h4, h5, h6, h7, h8, h9⟩
  · cases h
  have hsz : Rf.size E3 = 3 := rfl
  rw [hsz] at h5
  have hb : b < w.heap.size := hI.old c b h6
  have hcell : ∀ (i : Nat) (hi : i < xs.length), rd w b (o + i * 3) (enc3 xs[i]) ∧ In3 xs[i] := by
    intro i hi
    obtain ⟨cs, q1, q2, q3⟩ := h9 i xs[i] (List.getElem?_eq_getElem hi)
    obtain ⟨rfl, q4⟩ := erep3 q3
    rw [hsz] at q2
    exact ⟨q2, q4⟩
  have hperm := List.mergeSort_perm xs le3
  have hlen : (xs.mergeSort le3).length = xs.length := hperm.length_eq
  refine ⟨b, o, cap, h1, fun e he => (by
    obtain ⟨k, hk, hke⟩ := List.getElem_of_mem he
    have := (hcell k hk).2
    rwa [hke] at this), fun j hj => ?_, hb, fun n os => ?_⟩
  · have hj' : j < xs.length * 3 := by simpa using hj
    have hi : j / 3 < xs.length := by omega
    obtain ⟨q1, _⟩ := hcell (j / 3) hi
    have e := flat3 xs (j / 3) (j % 3) hi (by omega)
    have ej : j / 3 * 3 + j % 3 = j := by omega
    rw [ej] at e
    have hm : j % 3 < (enc3 xs[j / 3]).length := by simp only [enc3, List.length_cons, List.length_nil]; omega
    have q2 := q1 (j % 3) _ (List.getElem?_eq_getElem hm)
    rw [show o + j / 3 * 3 + j % 3 = o + j by omega] at q2
    refine ⟨by rw [q2, e, id, getElem!_pos (enc3 xs[j / 3]) (j % 3) hm], by simp [World.frozen?, h4]⟩
  · generalize hy : xs.mergeSort le3 = ys at hperm hlen ⊢
    have hX : (flatK enc3 3 ys.toArray).size = xs.length * 3 := by simp [hlen]
    generalize hXX : flatK enc3 3 ys.toArray = X at hX ⊢
    have hbk : (grow (putRow id (Sort.ahead w n) b o X) os).heap[b]? = some (.cells (putCells id o X arr) T (0, 0)) := by
      rw [heap_grow_old _ _ (by simpa using hb)]
      simp [putRow, mapBlock, Sort.ahead, Array.getElem?_modify, h4, onCells]
    have hother : ∀ b', b' < w.heap.size → b' ≠ b → (grow (putRow id (Sort.ahead w n) b o X) os).heap[b']? = w.heap[b']? := by
      intro b' hb' hne
      rw [heap_grow_old _ _ (by simpa using hb')]
      have : ¬ b = b' := fun e => hne e.symm
      simp [putRow, mapBlock, Sort.ahead, Array.getElem?_modify, this]
    have hsize : w.heap.size ≤ (grow (putRow id (Sort.ahead w n) b o X) os).heap.size := by
      simp [grow, putRow, mapBlock, Sort.ahead]
    have hg' : updReg g [(c, .row E3 true false ys)] c = some (.row E3 true false ys) := by rw [updReg_cons, if_pos rfl]
    refine ⟨S, hv, F, mkStep hI (fun c' => c' = c) (fun c' hne => by rw [updReg_cons, if_neg hne, updReg_nil]) (fun _ _ => rfl) hsize (fun b' hb' hn => hother b' hb' (fun e => hn c rfl (e ▸ h6))) (fun _ h => h) (fun _ _ => rfl) (fun c' hc' _ => by rw [hc', hg']; exact fun h => by cases h) ?_ ?_ ?_ (fun c' b' hc' hF => .inl ⟨c', hc', hF⟩) (fun c' b' _ hF => Nat.lt_of_lt_of_le (hI.old c' b' hF) hsize) (fun c1 c2 b' e1 e2 _ _ => by rw [e1, e2]) (fun b' h => .inl h) (fun b' h => Nat.lt_of_lt_of_le (hI.sold b' h) hsize) (fun c' b' _ hF => hI.shr c' b' hF) ⟨rfl, rfl, rfl, Nat.le_add_right _ _⟩⟩
    · intro c' m hc' _ hm
      rw [hc'] at hm ⊢
      simp only [glen, hg', hc, Rg.len] at hm ⊢
      rw [← hlen]
      exact hm
    · intro hx c' r hc' hr'
      rw [hc', hg'] at hr'
      cases hr'
      rw [hc']
      simp only [GRep]
      refine .inr ⟨rfl, b, o, cap, _, T, fun _ _ => False, by rw [h1, hlen], by rw [hlen]; exact h2, by rw [hlen]; exact h3, hbk, by rw [hsz]; simp only [putCells, Array.size_mapIdx]; exact h5, h6, fun _ _ h => h.elim, fun _ _ _ h => h.elim, fun i e he => ?_⟩
      have hi : i < ys.length := (List.getElem?_eq_some_iff.1 he).1
      have hee : ys[i] = e := by rw [List.getElem?_eq_getElem hi] at he; exact Option.some.inj he
      have hin : e ∈ xs := hperm.mem_iff.1 (List.mem_of_getElem? he)
      obtain ⟨k, hk, hke⟩ := List.getElem_of_mem hin
      obtain ⟨_, q5⟩ := hcell k hk
      rw [hke] at q5
      refine ⟨enc3 e, rfl, ?_, drep3 q5⟩
      rw [hsz]
      refine (rd_iff hbk).2 fun j v hj => ?_
      have hj3 : j < 3 := (List.getElem?_eq_some_iff.1 hj).1
      have hle : xs.length * 3 ≤ cap * 3 := Nat.mul_le_mul_right _ h2
      have e2 := flat3 ys i j hi hj3
      rw [hXX, hee] at e2
      have e3 : (enc3 e)[j]! = v := by
        have hm : j < (enc3 e).length := hj3
        rw [getElem!_pos (enc3 e) j hm]
        rw [List.getElem?_eq_getElem hm] at hj
        exact Option.some.inj hj
      rw [show o + i * 3 + j = o + (i * 3 + j) by omega, putCells_at3 arr o X (i * 3 + j) (by omega) (by omega), e2, e3]
    · intro c' b' hc' hF
      rw [hc', hg']
      exact ⟨_, rfl, rfl⟩
end

/-- the sort by a comparing function, as the evaluator answers it -/
def sortfI (x : (Bool × List (Int × Int × Int)) × Unit) : Option (Bool × List (Int × Int × Int)) := bif x.1.1 then none else bif decide (x.1.2.length ≤ lim) then some (false, x.1.2.mergeSort le3) else none

def sortfH (fid : Nat) (f : Func) (c k : Nat) : FnH := ⟨fid, f, .tup (.own c E3 false) (.tup (.v (.fn k .nil)) .unit), .tup (.own c E3 true) .unit, [c], [], [], [], [], some sortfI⟩

theorem sortf_call {P : Program} {H : Hints} {key fid c k : Nat} {f : Func} (hs : SortFOk P fid k) (hk : H.key key = some (sortfH fid f c k)) {x : Den (tyOf (aTys H key))} {y : Den (tyOf (rTys H key))} (he : natFun H (sortfH fid f c k) sortfI key x = some y) : CallOk P H key x y := by
  intro h hk'
  rw [hk] at hk'
  obtain rfl := Option.some.inj hk'
  obtain ⟨a, b, e1, e2, e3⟩ := natFun_spec he
  obtain ⟨⟨n, xs⟩, u⟩ : (Bool × List (Int × Int × Int)) × Unit := a
  obtain ⟨m, ys⟩ : Bool × List (Int × Int × Int) := b
  have e2' : sortfI ((n, xs), u) = some (m, ys) := e2
  unfold sortfI at e2'
  cases n with
  | true => cases e2'
  | false =>
  simp only [cond_false] at e2'
  cases hl : decide (xs.length ≤ lim) with
  | false => rw [hl] at e2'; cases e2'
  | true =>
  rw [hl] at e2'
  simp only [cond_true, Option.some.injEq, Prod.mk.injEq] at e2'
  obtain ⟨rfl, rfl⟩ := e2'
  have hlen : xs.length ≤ lim := of_decide_eq_true hl
  refine ⟨⟨.tup (.ref c) (.tup (.v (.fn k .nil) ()) .unit), [(c, .row E3 false false xs)], []⟩, by rw [e1]; rfl, by simp [sortfH, SS.ids], by simp [sortfH, SS.ids], rfl, fun w S hv F vs hI hc => ?_⟩
  simp only [CRep] at hc
  obtain ⟨p, r, rfl, hp, p2, r2, rfl, hp2, rfl⟩ := hc
  have hp' : p = hv c := by
    rcases hp with hp | ⟨hp, _⟩ | ⟨_, hp⟩
    · cases hp
    · cases hp
    · have h3 := hp.2.2
      simpa using h3
  subst hp'
  have hq' : p2 = .func (.func k) #[] #[] := by
    rcases hp2 with hp | ⟨hp, _⟩ | ⟨_, hp⟩
    · cases hp
    · cases hp
    · simp only [CRep, Rep] at hp
      obtain ⟨ps, h3, rfl⟩ := hp
      simpa using h3
  subst hq'
  obtain ⟨b, o, cap, h1, h0, h2, h3, h4⟩ := sortf_step hI (c := c) (dp := false) (xs := xs) (by rw [updReg_cons, if_pos rfl])
  rw [h1]
  refine (hs b o cap xs w h0 h2 h3 (Nat.lt_of_le_of_lt hlen (by decide))).mono fun e w' hq => ?_
  obtain ⟨rfl, n, os, rfl⟩ := hq
  obtain ⟨S', hv', F', hst⟩ := h4 n os
  refine ⟨_, ⟨.tup (.ref c) .unit, [(c, .row E3 true false (xs.mergeSort le3))], []⟩, rfl, by rw [e3]; rfl, S', hv', F', ?_, rfl⟩
  have hg : updReg (updReg (fun _ => none) [(c, .row E3 false false xs)]) [(c, .row E3 true false (xs.mergeSort le3))] = updReg (fun _ => none) [(c, .row E3 true false (xs.mergeSort le3))] := by
    funext c'
    by_cases hcc : c' = c
    · subst hcc; rw [updReg_cons, if_pos rfl, updReg_cons, if_pos rfl]
    · rw [updReg_cons, if_neg hcc, updReg_nil, updReg_cons, if_neg hcc, updReg_nil, updReg_cons, if_neg hcc, updReg_nil]
  rw [hg] at hst
  exact ⟨hst.inv, hst.ext.sub, fun c' h1 _ => hst.ext.hv c' h1, hst.bS, fun c' b' hb => hst.bF c' b' hb, hst.fr, hst.sz, hst.st⟩

/-- the keys that are known by a contract, and the others -/
inductive NatGood (P : Program) : FnH → Prop where
  | plain {h : FnH} : h.nat = none → NatGood P h
  | sort {fid : Nat} {f : Func} {c : Nat} : SortOk P fid → NatGood P (sortH fid f c)
  | compact {fid : Nat} {f : Func} {c c2 : Nat} : c ≠ c2 → CompactOk P fid → NatGood P (compactH fid f c c2)
  | sortf {fid : Nat} {f : Func} {c k : Nat} : SortFOk P fid k → NatGood P (sortfH fid f c k)

def NatAll (P : Program) : List (Nat × FnH) → Prop
  | [] => True
  | e :: l => NatGood P e.2 ∧ NatAll P l

theorem NatAll_mem {P : Program} : ∀ {l : List (Nat × FnH)}, NatAll P l → ∀ e ∈ l, NatGood P e.2
  | [], _, e, he => by cases he
  | a :: l, h, e, he => by
    rcases List.mem_cons.1 he with rfl | he
    · exact h.1
    · exact NatAll_mem h.2 e he
end Go.Rf

namespace Go.Rf

variable {H : Hints}

/-- computations that ask the functions for answers, and do no more with them -/
inductive Pl (H : Hints) : {α : Type} → (Fns H → M α) → Prop where
  | const {α : Type} (m : M α) : Pl H (fun _ => m)
  | ite {α : Type} (b : Bool) {x y : Fns H → M α} : Pl H x → Pl H y → Pl H (fun p => .ite b (x p) (y p))
  | call {α : Type} (key : Nat) (x : Den (tyOf (aTys H key))) {f : Fns H → Den (tyOf (rTys H key)) → M α} : (∀ y, Pl H (fun p => f p y)) → Pl H (fun p => .ask _ (p.call key x) (f p))
  | loop {α : Type} (key n : Nat) (c : Code) (x : Den (tyOf (hTys (loopOf H key n)))) {f : Fns H → ExTy (loopOf H key n).exits → M α} : (∀ y, Pl H (fun p => f p y)) → Pl H (fun p => .ask _ (p.loop key n c x) (f p))
  | ask {α β : Type} (m : Option β) {f : Fns H → β → M α} : (∀ y, Pl H (fun p => f p y)) → Pl H (fun p => .ask _ m (f p))
  | cas {α β γ : Type} (s : β ⊕ γ) {f : Fns H → β → M α} {g : Fns H → γ → M α} : (∀ y, Pl H (fun p => f p y)) → (∀ y, Pl H (fun p => g p y)) → Pl H (fun p => .cas _ _ s (f p) (g p))

theorem bind_const {α β : Type} : ∀ (m : M α) {f : Fns H → α → M β}, (∀ a, Pl H (fun p => f p a)) → Pl H (fun p => m.bind (f p)) := by
  intro m
  induction m with
  | ret a => intro f hf; exact hf a
  | fail => intro f hf; exact .const .fail
  | ite b x y hx hy => intro f hf; exact .ite b (hx hf) (hy hf)
  | ask γ m k h => intro f hf; exact .ask m fun y => h y hf
  | cas γ δ s k l h h' => intro f hf; exact .cas s (fun y => h y hf) fun y => h' y hf

theorem Pl.bind {α β : Type} {m : Fns H → M α} (hm : Pl H m) : ∀ {f : Fns H → α → M β}, (∀ a, Pl H (fun p => f p a)) → Pl H (fun p => (m p).bind (f p)) := by
  induction hm with
  | const m => intro f hf; exact bind_const m hf
  | ite b _ _ hx hy => intro f hf; exact .ite b (hx hf) (hy hf)
  | call key x _ h => intro f hf; exact .call key x fun y => h y hf
  | loop key n c x _ h => intro f hf; exact .loop key n c x fun y => h y hf
  | ask m _ h => intro f hf; exact .ask m fun y => h y hf
  | cas s _ _ h h' => intro f hf; exact .cas s (fun y => h y hf) fun y => h' y hf

/-! ### the evaluator is such a computation -/
theorem callE_Pl (g : Look) (d key f : Nat) (args : SV) : Pl H (fun p => callE H p g d key f args) := by
  unfold callE
  cases H.key key with
  | none => exact .const _
  | some h =>
    simp only
    cases h.fid == f with
    | false => exact .const _
    | true =>
      refine bind_const _ fun r => ?_
      cases r.2.ok with
      | false => exact .const _
      | true =>
        cases pack (aTys H key) r.1 with
        | none => exact .const _
        | some x => exact .call key x fun y => .const _

theorem eff1_const {h : FnH} {o : Op} {T d : Nat} {g : Look} {args : List SV} (hnc : ∀ c, o ≠ .call c) (p q : Fns H) : eff1 H h p o T d g args = eff1 H h q o T d g args := by
  cases o with
  | call c => exact absurd rfl (hnc c)
  | makeMap T r =>
    cases r <;> rcases args with _ | ⟨a, _ | ⟨b, _ | ⟨c, _ | ⟨e, l⟩⟩⟩⟩ <;> rfl
  | _ =>
    rcases args with _ | ⟨a, _ | ⟨b, _ | ⟨c, _ | ⟨e, l⟩⟩⟩⟩ <;> rfl

theorem eff1_Pl (h : FnH) (o : Op) (T d : Nat) (g : Look) (args : List SV) : Pl H (fun p => eff1 H h p o T d g args) := by
  by_cases hc : ∃ c, o = .call c
  · obtain ⟨c, rfl⟩ := hc
    unfold eff1
    simp only
    cases c.callee with
    | builtin b => exact .const _
    | invoke r m => exact .const _
    | value f =>
      simp only
      cases args with
      | nil => exact .const _
      | cons a l =>
        cases a with
        | clo f' caps =>
          simp only
          cases H.extF f' with
          | some e => cases e <;> exact .const _
          | none => exact callE_Pl _ _ _ _ _
        | v t x =>
          cases t with
          | fn f' ct =>
            simp only
            cases capSV ct x with
            | some caps => exact callE_Pl _ _ _ _ _
            | none => exact .const _
          | _ => exact .const _
        | _ => exact .const _
  · have : (fun p => eff1 H h p o T d g args) = fun _ => eff1 H h ⟨fun _ _ => none, fun _ _ _ _ => none⟩ o T d g args := funext fun p => eff1_const (fun c hcc => hc ⟨c, hcc⟩) p _
    rw [this]
    exact .const _

theorem stepOp_Pl (h : FnH) (o : Oper) (s : St) : Pl H (fun p => stepOp H h p o s) := by
  unfold stepOp
  exact (eff1_Pl _ _ _ _ _ _).bind fun e => .const _

theorem runOp_Pl (h : FnH) (ops : Array Oper) (o : Oper) (s : St) : Pl H (fun p => runOp H h p ops o s) := by
  unfold runOp
  cases o.guard with
  | none => exact stepOp_Pl _ _ _
  | some jw =>
    obtain ⟨j, want⟩ := jw
    simp only
    cases dstOf ops j with
    | none => exact .const _
    | some q =>
      simp only
      have go : ∀ b : Bool, Pl H (fun p => (match b == want with
          | true => stepOp H h p o (s.put (some q) (.v .bool b))
          | false => .ret ((s.put (some q) (.v .bool b)).put o.dst .unit, ⟨[], []⟩) : M (St × Tr))) := by
        intro b
        cases b == want with
        | true => exact stepOp_Pl _ _ _
        | false => exact .const _
      cases hs : s.slot q with
      | v t b =>
        cases t with
        | bool => exact .ite b (go true) (go false)
        | _ => exact .const _
      | _ => exact .const _

theorem runOps_Pl (h : FnH) (ops : Array Oper) : ∀ (l : List Oper) (s : St), Pl H (fun p => runOps H h p ops l s)
  | [], s => .const _
  | o :: l, s => by
    unfold runOps
    exact (runOp_Pl h ops o s).bind fun r => (runOps_Pl h ops l r.1).bind fun q => .const _

theorem ev_Pl (key : Nat) (h : FnH) : ∀ (c : Code) (s : St), Pl H (fun p => ev H key h p c s) := by
  intro c
  induction c with
  | region id ops draw =>
    intro s
    simp only [ev]
    exact (runOps_Pl h ops ops.toList s).bind fun r => .const _
  | seq a b iha ihb =>
    intro s
    simp only [ev]
    refine (iha s).bind fun r => ?_
    cases r.1 with
    | normal => exact ihb r.2
    | _ => exact .const _
  | cond c a b iha ihb =>
    intro s
    simp only [ev]
    cases opnd s c with
    | v t x =>
      cases t with
      | bool => exact .ite x (iha s) (ihb s)
      | _ => exact .const _
    | _ => exact .const _
  | block n c ih =>
    intro s
    by_cases hloop : ∃ c', c = .loop c'
    · obtain ⟨c', rfl⟩ := hloop
      simp only [ev]
      refine bind_const _ fun r => ?_
      cases r.2.ok && disjointB (loopOf H key n).keep (writes c') && !isRange c' with
      | false => exact .const _
      | true =>
        cases pack (hTys (loopOf H key n)) r.1 with
        | none => exact .const _
        | some x => exact .loop key n c' x fun y => .const _
    · by_cases hrange : ∃ t ps xx c', c = .rangeFunc (.tmp t) ps xx c'
      · obtain ⟨t, ps, xx, c', rfl⟩ := hrange
        simp only [ev]
        generalize rangeLen H _ t = ol
        generalize ps.toList = pl
        cases ol with
        | none => exact .const _
        | some k =>
          rcases pl with _ | ⟨q, _ | ⟨q2, _ | ⟨z, l⟩⟩⟩
          · exact .const _
          · exact .const _
          · refine bind_const _ fun r => ?_
            cases r.2.ok with
            | false => exact .const _
            | true =>
              cases pack (hTys (loopOf H key n)) r.1 with
              | none => exact .const _
              | some x => exact .loop key n (.rangeFunc (.tmp t) ps xx c') x fun y => .const _
          · exact .const _
      have : (fun p => ev H key h p (.block n c) s) = fun p => (ev H key h p c s).bind fun z =>
          (match z.1 with
          | .exit m => .ret (if m = n then .normal else .exit m, z.2)
          | x => .ret (x, z.2)) := funext fun p => ev_block (fun c' hc => hloop ⟨c', hc⟩) (fun t ps x c' hc => hrange ⟨t, ps, x, c', hc⟩)
      rw [this]
      exact (ih s).bind fun z => .const _
  | _ => intro s; exact .const _

/-! ### more fuel, the same answers -/
def Fns.le (p q : Fns H) : Prop := (∀ key x y, p.call key x = some y → q.call key x = some y) ∧ ∀ key n c x y, p.loop key n c x = some y → q.loop key n c x = some y

theorem Pl.mono {α : Type} {m : Fns H → M α} (hm : Pl H m) {p q : Fns H} (h : p.le q) : ∀ {v : α}, (m p).run = some v → (m q).run = some v := by
  induction hm with
  | const m => intro v hv; exact hv
  | ite b _ _ hx hy => intro v hv; cases b <;> simp only [M.run, cond_true, cond_false] at hv ⊢ <;> first | exact hx hv | exact hy hv
  | call key x _ ih =>
    intro v hv
    simp only [M.run] at hv ⊢
    obtain ⟨y, h1, h2⟩ := Option.bind_eq_some_iff.1 hv
    rw [h.1 _ _ _ h1]
    exact ih y h2
  | loop key n c x _ ih =>
    intro v hv
    simp only [M.run] at hv ⊢
    obtain ⟨y, h1, h2⟩ := Option.bind_eq_some_iff.1 hv
    rw [h.2 _ _ _ _ _ h1]
    exact ih y h2
  | ask m _ ih =>
    intro v hv
    simp only [M.run] at hv ⊢
    obtain ⟨y, h1, h2⟩ := Option.bind_eq_some_iff.1 hv
    rw [h1]
    exact ih y h2
  | cas s _ _ h1 h2 =>
    intro v hv
    simp only [M.run] at hv ⊢
    cases s with
    | inl y => exact h1 y hv
    | inr y => exact h2 y hv

/-- a function's body -/
def bodyOf (H : Hints) (key : Nat) (h : FnH) (c : Code) (r : Reb) (p : Fns H) : M (Den (tyOf (rTys H key))) := (ev H key h p c { slot := slotsOf (argSlots 0 r.sv) fun _ => .dead, reg := updReg (fun _ => none) r.rs }).bind fun z =>
        let fin : M (Den (tyOf (rTys H key))) :=
          match resultSVs H z.2 h.f.results.toList with
          | some rs => (ext (z.2.settle [tupApp (backSVs h.pars) rs]).reg h.outs (tupApp (backSVs h.pars) rs) ⟨[], []⟩).bind fun q =>
            (match q.2.ok && placeOk h.pars.ids h.outs.ids q.2, pack (rTys H key) q.1 with
            | true, some y => .ret y
            | _, _ => .fail)
          | none => .fail
        match z.1 with
        | .normal => fin
        | .ret => fin
        | _ => .fail

theorem bodyOf_Pl {key : Nat} {h : FnH} {c : Code} {r : Reb} : Pl H (bodyOf H key h c r) := by
  unfold bodyOf
  exact (ev_Pl key h _ _).bind fun z => .const _

theorem evFun_mono {p q : Fns H} (h : p.le q) {key : Nat} {x : Den (tyOf (aTys H key))} {y : Den (tyOf (rTys H key))} (hv : evFun H p key x = some y) : evFun H q key x = some y := by
  unfold evFun at hv ⊢
  cases hk : H.key key with
  | none => rw [hk] at hv; exact hv
  | some f =>
    rw [hk] at hv
    simp only at hv ⊢
    cases hnat : f.nat with
    | some f' => rw [hnat] at hv; exact hv
    | none =>
    rw [hnat] at hv
    simp only at hv ⊢
    split at hv
    · rename_i c r _ _ _
      exact Pl.mono (bodyOf_Pl (key := key) (h := f) (c := c) (r := r)) h hv
    · cases hv

theorem roundOf_Pl {key : Nat} {f : FnH} {n : Nat} {c : Code} {r : RebF} : Pl H (fun p => roundOf H key f p n c r) := by
  unfold roundOf
  refine (ev_Pl key f _ _).bind fun z => ?_
  cases z.1 with
  | normal =>
    refine bind_const _ fun q => ?_
    cases q.2.ok && backOk (loopOf H key n) q.2 with
    | false => exact .const _
    | true =>
      cases pack (hTys (loopOf H key n)) q.1 with
      | none => exact .const _
      | some y => exact .loop key n c y fun z => .const _
  | _ => exact .const _

theorem roundR_Pl {key : Nat} {f : FnH} {n t : Nat} {ps : Array Tmp} {q q2 : Nat} {a c : Code} {r : RebF} : Pl H (fun p => roundR H key f p n t ps q q2 a c r) := by
  unfold roundR
  cases (newFrame r).slot q with
  | v u i =>
    cases u with
    | int k =>
      cases k with
      | i64 =>
        refine .ite _ (.const _) (bind_const _ fun e => (ev_Pl key f _ _).bind fun z => ?_)
        cases z.1 with
        | normal =>
          refine bind_const _ fun o => ?_
          cases o.2.ok && backOk (loopOf H key n) o.2 with
          | false => exact .const _
          | true =>
            cases pack (hTys (loopOf H key n)) o.1 with
            | none => exact .const _
            | some y => exact .loop key n _ y fun z => .const _
        | _ => exact .const _
      | _ => exact .const _
    | _ => exact .const _
  | _ => exact .const _

theorem roundAny_Pl {key : Nat} {f : FnH} {n : Nat} {c : Code} {r : RebF} : Pl H (fun p => roundAny H key f p n c r) := by
  cases c with
  | rangeFunc g ps a d =>
    cases g with
    | tmp t =>
      simp only [roundAny]
      generalize ps.toList = pl
      rcases pl with _ | ⟨q, _ | ⟨q2, _ | ⟨z, l⟩⟩⟩
      · exact .const _
      · exact .const _
      · simp only
        cases rangeOk (loopOf H key n) f.f.ntmps q q2 a d with
        | false => exact .const _
        | true => exact roundR_Pl
      · exact .const _
    | _ => exact .const _
  | _ => exact roundOf_Pl

theorem evLoop_mono {p q : Fns H} (h : p.le q) {key : Nat} {f : FnH} {n : Nat} {c : Code} {x : Den (tyOf (hTys (loopOf H key n)))} {y : ExTy (loopOf H key n).exits} (hv : evLoop H key f p n c x = some y) : evLoop H key f q n c x = some y := by
  unfold evLoop at hv ⊢
  split at hv
  · rename_i r _ _
    exact Pl.mono (roundAny_Pl (key := key) (f := f) (n := n) (c := c) (r := r)) h hv
  · cases hv

theorem lev_le_succ : ∀ k, (lev H k).le (lev H (k + 1)) := by
  intro k
  induction k with
  | zero => exact ⟨fun key x y h => by simp [lev] at h, fun key n c x y h => by simp [lev] at h⟩
  | succ k ih =>
    refine ⟨fun key x y h => evFun_mono ih h, fun key n c x y h => ?_⟩
    simp only [lev] at h ⊢
    split at h
    · exact evLoop_mono ih h
    · cases h

theorem lev_le {k m : Nat} (h : k ≤ m) : (lev H k).le (lev H m) := by
  induction h with
  | refl => exact ⟨fun _ _ _ h => h, fun _ _ _ _ _ h => h⟩
  | step _ ih =>
    obtain ⟨h1, h2⟩ := lev_le_succ (H := H) _
    exact ⟨fun key x y h => h1 _ _ _ (ih.1 _ _ _ h), fun key n c x y h => h2 _ _ _ _ _ (ih.2 _ _ _ _ _ h)⟩

/-! ### without fuel -/
open Classical in
noncomputable def upto {α : Type} (u : Nat → Option α) : Option α := if h : ∃ v k, u k = some v then some h.choose else none

theorem upto_iff {α : Type} {u : Nat → Option α} (hm : ∀ k v, u k = some v → ∀ m, k ≤ m → u m = some v) {v : α} : upto u = some v ↔ ∃ k, u k = some v := by
  unfold upto
  constructor
  · intro h
    split at h
    · rename_i hx
      simp only [Option.some.injEq] at h
      obtain ⟨k, hk⟩ := hx.choose_spec
      exact ⟨k, by rw [hk, h]⟩
    · cases h
  · rintro ⟨k, hk⟩
    have hx : ∃ v k, u k = some v := ⟨v, k, hk⟩
    rw [dif_pos hx]
    obtain ⟨k', hk'⟩ := hx.choose_spec
    have h1 := hm k v hk (max k k') (Nat.le_max_left _ _)
    have h2 := hm k' _ hk' (max k k') (Nat.le_max_right _ _)
    rw [h1] at h2
    exact h2.symm

/-- the functions, without fuel -/
noncomputable def inf (H : Hints) : Fns H := ⟨fun key x => upto fun k => (lev H k).call key x, fun key n c x => upto fun k => (lev H k).loop key n c x⟩

theorem inf_call {key : Nat} {x : Den (tyOf (aTys H key))} {y : Den (tyOf (rTys H key))} : (inf H).call key x = some y ↔ ∃ k, (lev H k).call key x = some y :=
  upto_iff fun k v h m hm => (lev_le hm).1 _ _ _ h

theorem inf_loop {key n : Nat} {c : Code} {x : Den (tyOf (hTys (loopOf H key n)))} {y : ExTy (loopOf H key n).exits} : (inf H).loop key n c x = some y ↔ ∃ k, (lev H k).loop key n c x = some y :=
  upto_iff fun k v h m hm => (lev_le hm).2 _ _ _ _ _ h

theorem lev_inf (k : Nat) : (lev H k).le (inf H) := ⟨fun _ _ _ h => inf_call.2 ⟨k, h⟩, fun _ _ _ _ _ h => inf_loop.2 ⟨k, h⟩⟩

theorem Pl.cont {α : Type} {m : Fns H → M α} (hm : Pl H m) : ∀ {v : α}, (m (inf H)).run = some v → ∃ n, ∀ k, n ≤ k → (m (lev H k)).run = some v := by
  induction hm with
  | const m => intro v hv; exact ⟨0, fun _ _ => hv⟩
  | ite b _ _ hx hy => intro v hv; cases b <;> simp only [M.run, cond_true, cond_false] at hv ⊢ <;> first | exact hx hv | exact hy hv
  | call key x _ ih =>
    intro v hv
    simp only [M.run] at hv ⊢
    obtain ⟨y, h1, h2⟩ := Option.bind_eq_some_iff.1 hv
    obtain ⟨k1, h3⟩ := inf_call.1 h1
    obtain ⟨k2, h4⟩ := ih y h2
    refine ⟨max k1 k2, fun k hk => ?_⟩
    rw [(lev_le (Nat.le_trans (Nat.le_max_left _ _) hk)).1 _ _ _ h3]
    exact h4 k (Nat.le_trans (Nat.le_max_right _ _) hk)
  | loop key n c x _ ih =>
    intro v hv
    simp only [M.run] at hv ⊢
    obtain ⟨y, h1, h2⟩ := Option.bind_eq_some_iff.1 hv
    obtain ⟨k1, h3⟩ := inf_loop.1 h1
    obtain ⟨k2, h4⟩ := ih y h2
    refine ⟨max k1 k2, fun k hk => ?_⟩
    rw [(lev_le (Nat.le_trans (Nat.le_max_left _ _) hk)).2 _ _ _ _ _ h3]
    exact h4 k (Nat.le_trans (Nat.le_max_right _ _) hk)
  | ask m _ ih =>
    intro v hv
    simp only [M.run] at hv ⊢
    obtain ⟨y, h1, h2⟩ := Option.bind_eq_some_iff.1 hv
    obtain ⟨k2, h4⟩ := ih y h2
    exact ⟨k2, fun k hk => by rw [h1]; exact h4 k hk⟩
  | cas s _ _ h1 h2 =>
    intro v hv
    simp only [M.run] at hv ⊢
    cases s with
    | inl y => exact h1 y hv
    | inr y => exact h2 y hv

theorem evFun_cont {key : Nat} {x : Den (tyOf (aTys H key))} {y : Den (tyOf (rTys H key))} (hv : evFun H (inf H) key x = some y) : ∃ k, evFun H (lev H k) key x = some y := by
  unfold evFun at hv ⊢
  cases hk : H.key key with
  | none => rw [hk] at hv; cases hv
  | some f =>
    rw [hk] at hv
    simp only at hv ⊢
    cases hnat : f.nat with
    | some f' => rw [hnat] at hv; exact ⟨0, hv⟩
    | none =>
    rw [hnat] at hv
    simp only at hv ⊢
    split at hv
    · rename_i c r hb hr hc
      obtain ⟨n, hn⟩ := Pl.cont (bodyOf_Pl (key := key) (h := f) (c := c) (r := r)) hv
      exact ⟨n, hn n (Nat.le_refl _)⟩
    · cases hv

theorem evLoop_cont {key : Nat} {f : FnH} {n : Nat} {c : Code} {x : Den (tyOf (hTys (loopOf H key n)))} {y : ExTy (loopOf H key n).exits} (hv : evLoop H key f (inf H) n c x = some y) : ∃ k, evLoop H key f (lev H k) n c x = some y := by
  unfold evLoop at hv ⊢
  split at hv
  · rename_i r _ _
    obtain ⟨n', hn⟩ := Pl.cont (roundAny_Pl (key := key) (f := f) (n := n) (c := c) (r := r)) hv
    exact ⟨n', hn n' (Nat.le_refl _)⟩
  · cases hv

/-- THE FIXED POINT -/
theorem inf_call_eq (key : Nat) (x : Den (tyOf (aTys H key))) : (inf H).call key x = evFun H (inf H) key x := by
  apply Option.ext
  intro y
  constructor
  · intro h
    obtain ⟨k, hk⟩ := inf_call.1 h
    cases k with
    | zero => simp [lev] at hk
    | succ k => exact evFun_mono (lev_inf k) hk
  · intro h
    obtain ⟨k, hk⟩ := evFun_cont h
    exact inf_call.2 ⟨k + 1, hk⟩

theorem inf_loop_eq (key n : Nat) (c : Code) (x : Den (tyOf (hTys (loopOf H key n)))) {f : FnH} (hf : H.key key = some f) : (inf H).loop key n c x = evLoop H key f (inf H) n c x := by
  apply Option.ext
  intro y
  constructor
  · intro h
    obtain ⟨k, hk⟩ := inf_loop.1 h
    cases k with
    | zero => simp [lev] at hk
    | succ k =>
      simp only [lev, hf] at hk
      exact evLoop_mono (lev_inf k) hk
  · intro h
    obtain ⟨k, hk⟩ := evLoop_cont h
    refine inf_loop.2 ⟨k + 1, ?_⟩
    simp only [lev, hf]
    exact hk
end Go.Rf
