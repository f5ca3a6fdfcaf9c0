/- An evaluator over the code of the given program, and its soundness: part 1. -/
import Derived.Orders
import Derived.Tactics
import Derived.Laws.CopyRow
import Derived.Laws.AppendOwn
import Derived.Laws.Rows
import Derived.OrdersIn
import Derived.RangeFuncLeaves
import Derived.RangeFuncRecord
import Derived.RangeFuncSeq
import Derived.Below
import Derived.Laws.Closers25b
import Derived.Laws.Shifts
set_option linter.all false
namespace Go.Rf

/-! ### kinds and their values -/
inductive Ty where
  | int (k : IntKind) | bool | nil | one (a : Ty) | pair (a b : Ty) | sl (t : Ty) | fn (f : Nat) (cap : Ty) | hsl (t : Ty)
  deriving DecidableEq, Inhabited

@[reducible] def Den : Ty → Type
  | .int _ => Int
  | .bool => Bool
  | .nil => Unit
  | .one a => Den a
  | .pair a b => Den a × Den b
  | .sl t => Bool × List (Den t)
  | .fn _ c => Den c
  | .hsl t => Bool × List (Option (Den t))

def dflt : (t : Ty) → Den t
  | .int _ => (0 : Int)
  | .bool => false
  | .nil => ()
  | .one a => dflt a
  | .pair a b => (dflt a, dflt b)
  | .sl _ => (true, [])
  | .fn _ c => dflt c
  | .hsl _ => (true, [])

def size : Ty → Nat
  | .int _ => 1
  | .bool => 1
  | .nil => 0
  | .one a => size a
  | .pair a b => size a + size b
  | .sl _ => 1
  | .fn _ _ => 1
  | .hsl _ => 1

def bytes : Ty → Nat
  | .int .i8 => 1 | .int .u8 => 1 | .int .i16 => 2 | .int .u16 => 2 | .int .i32 => 4 | .int .u32 => 4 | .int _ => 8
  | .bool => 1
  | .nil => 0
  | .one a => bytes a
  | .pair a b => bytes a + bytes b
  | .sl _ => 24
  | .fn _ _ => 8
  | .hsl _ => 24

/-- no slice and no function inside -/
def flat : Ty → Bool
  | .int _ => true
  | .bool => true
  | .nil => true
  | .one a => flat a
  | .pair a b => flat a && flat b
  | .sl _ => false
  | .fn _ _ => false
  | .hsl _ => false

def isAgg : Ty → Bool
  | .nil => true
  | .one _ => true
  | .pair _ _ => true
  | _ => false

/-- a row one of whose places is lent: nothing is known of it -/
def holeAt {α : Type} (xs : List α) (i : Nat) : List (Option α) := xs.mapIdx fun j e => bif j == i then none else some e

abbrev D := (t : Ty) × Den t

def cast (t u : Ty) (x : Den t) : Option (Den u) := if h : t = u then some (h ▸ x) else none
def D.to (d : D) (u : Ty) : Option (Den u) := cast d.1 u d.2

/-! ### places inside a value -/
inductive Step where
  | fst | snd (skip : Nat) | one | el (i : Nat) (sz : Nat)
  deriving DecidableEq

def Step.off : Step → Nat
  | .fst => 0
  | .snd n => n
  | .one => 0
  | .el i sz => i * sz

def pathOff : List Step → Nat
  | [] => 0
  | s :: p => s.off + pathOff p

def Den.get : (t : Ty) → Den t → List Step → Option D
  | t, x, [] => some ⟨t, x⟩
  | .one a, x, .one :: p => Den.get a x p
  | .pair a _, x, .fst :: p => Den.get a x.1 p
  | .pair a b, x, .snd n :: p => if n = size a then Den.get b x.2 p else none
  | _, _, _ => none

def Den.set : (t : Ty) → Den t → List Step → D → Option (Den t)
  | t, _, [], d => d.to t
  | .one a, x, .one :: p, d => Den.set a x p d
  | .pair a _, x, .fst :: p, d => (Den.set a x.1 p d).map fun y => (y, x.2)
  | .pair a b, x, .snd n :: p, d => if n = size a then (Den.set b x.2 p d).map fun y => (x.1, y) else none
  | _, _, _, _ => none

/-- field i of n -/
def fpath : Ty → Nat → Nat → Option (List Step × Ty)
  | .one a, 1, 0 => some ([.one], a)
  | .pair a _, _ + 2, 0 => some ([.fst], a)
  | .pair a b, 2, 1 => some ([.snd (size a)], b)
  | .pair a b, n + 3, i + 1 => (fpath b (n + 2) i).map fun r => (.snd (size a) :: r.1, r.2)
  | _, _, _ => none

/-! ### what a slot holds -/
inductive SV where
  | dead
  | v (t : Ty) (x : Den t)
  | ref (c : Nat)
  | sub (c sz lo hi : Nat)
  | ptr (c : Nat) (p : List Step)
  | sp (t : Ty) (x : Den t)
  | one (a : SV)
  | pair (a b : SV)
  | unit
  | tup (a b : SV)
  | clo (f : Nat) (caps : SV)
  | nilv

inductive Rg where
  | row (t : Ty) (deep nil : Bool) (xs : List (Den t))
  | rowl (t : Ty) (nil : Bool) (xs : List (Den t)) (i : Nat) (q : List Step) (d : Nat)
  | box (a : SV)
  | fz (t : Ty) (x : Den t)
  | fzb (t : Ty) (x : Den t)
  | map (k v : Ty) (es : List (Den (.pair k v)))
  | gone

structure St where
  slot : Nat → SV
  reg : Nat → Option Rg

def SV.size : SV → Nat
  | .v t _ => Rf.size t
  | .one a => a.size
  | .pair a b => a.size + b.size
  | _ => 1

/-- of one cell, and no struct -/
def SV.cell : SV → Bool
  | .v t _ => !isAgg t
  | .ref _ => true
  | .sub _ _ _ _ => true
  | .ptr _ _ => true
  | .sp _ _ => true
  | .clo _ _ => true
  | .nilv => true
  | _ => false

def mkOne : SV → SV
  | .v t x => .v (.one t) x
  | a => .one a

def mkPair : SV → SV → SV
  | .v t x, .v u y => .v (.pair t u) (x, y)
  | a, b => .pair a b

def SV.get : SV → List Step → Option SV
  | a, [] => some a
  | .v t x, p => (Den.get t x p).map fun d => .v d.1 d.2
  | .one a, .one :: p => a.get p
  | .pair a _, .fst :: p => a.get p
  | .pair a b, .snd n :: p => if n = a.size then b.get p else none
  | _, _ => none

def SV.fits (old new : SV) : Bool :=
  match new with
  | .dead => false
  | .unit => false
  | .tup _ _ => false
  | _ => old.size == new.size

/-- the place p of a box's content is stored to -/
def SV.set : SV → List Step → SV → Option SV
  | old, [], y => if old.fits y then some y else none
  | .v (.one a) x, .one :: p, y => (SV.set (.v a x) p y).map mkOne
  | .v (.pair a b) x, .fst :: p, y => (SV.set (.v a x.1) p y).map fun z => mkPair z (.v b x.2)
  | .v (.pair a b) x, .snd n :: p, y => if n = Rf.size a then (SV.set (.v b x.2) p y).map fun z => mkPair (.v a x.1) z else none
  | .one a, .one :: p, y => (SV.set a p y).map mkOne
  | .pair a b, .fst :: p, y => (SV.set a p y).map fun z => mkPair z b
  | .pair a b, .snd n :: p, y => if n = a.size then (SV.set b p y).map fun z => mkPair a z else none
  | _, _, _ => none

/-! ### runs that ask -/
inductive M (α : Type) : Type 1 where
  | ret (a : α)
  | fail
  | ite (b : Bool) (x y : M α)
  | ask (β : Type) (m : Option β) (k : β → M α)
  | cas (β γ : Type) (s : β ⊕ γ) (k : β → M α) (l : γ → M α)

namespace M
def run {α : Type} : M α → Option α
  | ret a => some a
  | fail => none
  | ite b x y => bif b then x.run else y.run
  | ask _ m k => m.bind fun r => (k r).run
  | cas _ _ s k l => match s with
    | .inl x => (k x).run
    | .inr y => (l y).run
def bind {α β : Type} : M α → (α → M β) → M β
  | ret a, f => f a
  | fail, _ => fail
  | ite b x y, f => ite b (x.bind f) (y.bind f)
  | ask γ m k, f => ask γ m fun r => (k r).bind f
  | cas γ δ s k l, f => cas γ δ s (fun x => (k x).bind f) (fun y => (l y).bind f)
instance : Monad M where
  pure := M.ret
  bind := M.bind
def ofOption {α : Type} : Option α → M α
  | some a => ret a
  | none => fail
def guard (b : Bool) : M Unit := ite b (ret ()) fail
/-- a test that is reckoned out (no test in the tree where it is a literal) -/
def must (b : Bool) : M Unit := match b with | true => ret () | false => fail
theorem run_bind {α β : Type} (m : M α) (f : α → M β) : (m.bind f).run = m.run.bind fun a => (f a).run := by
  induction m with
  | ret a => rfl
  | fail => rfl
  | ite b x y hx hy => simp only [bind, run, hx, hy]; cases b <;> rfl
  | ask γ m k h => simp only [bind, run]; cases m with
    | none => rfl
    | some r => exact h r
  | cas γ δ s k l h h' => simp only [bind, run]; cases s with
    | inl x => exact h x
    | inr y => exact h' y
end M
end Go.Rf

namespace Go.Rf

/-! ### lists of data as one value -/
def tyOf : List Ty → Ty
  | [] => .nil
  | [a] => a
  | a :: b :: r => .pair a (tyOf (b :: r))

def pack : (ts : List Ty) → List D → Option (Den (tyOf ts))
  | [], ds => (match ds with
    | [] => some ()
    | _ :: _ => none)
  | [t], ds => (match ds with
    | [d] => d.to t
    | _ => none)
  | t :: u :: ts, ds => (match ds with
    | d :: ds =>
      (match d.to t, pack (u :: ts) ds with
      | some x, some y => some (x, y)
      | _, _ => none)
    | [] => none)

def unpack : (ts : List Ty) → Den (tyOf ts) → List D
  | [], _ => []
  | [t], x => [⟨t, x⟩]
  | t :: u :: ts, x => ⟨t, x.1⟩ :: unpack (u :: ts) x.2

/-! ### shapes -/
inductive SS where
  | any | v (t : Ty) | nl (t : Ty) | sp (t : Ty) | own (c : Nat) (t : Ty) (deep : Bool) | box (c : Nat) (a : SS)
  | ref (c : Nat) | ptr (c : Nat) | map (c : Nat) (k v : Ty) | one (a : SS) | pair (a b : SS) | unit | tup (a b : SS) | clo (f : Nat) (a : SS) | subr (c : Nat) (t : Ty)

def SS.tys : SS → List Ty
  | .v t => [t]
  | .sp t => [t]
  | .own _ t _ => [.sl t]
  | .map _ a b => [.sl (.pair a b)]
  | .subr _ _ => [.int .i64, .int .i64]
  | .box _ a => a.tys
  | .one a => a.tys
  | .pair a b => a.tys ++ b.tys
  | .tup a b => a.tys ++ b.tys
  | .clo _ a => a.tys
  | _ => []

/-- the regions that a shape defines -/
def SS.ids : SS → List Nat
  | .own c _ _ => [c]
  | .map c _ _ => [c]
  | .box c a => c :: a.ids
  | .one a => a.ids
  | .pair a b => a.ids ++ b.ids
  | .tup a b => a.ids ++ b.ids
  | .clo _ a => a.ids
  | _ => []

def SS.isAny : SS → Bool
  | .any => true
  | _ => false

def SS.isChain : SS → Bool
  | .unit => true
  | .tup _ _ => true
  | _ => false

abbrev Look := Nat → Option Rg

/-- what a value reads as, and the regions that it shows -/
def view0 (g : Look) : SV → Option (D × List Nat)
  | .v t x => some (⟨t, x⟩, [])
  | .ref c =>
    match g c with
    | some (.row t _ n xs) => some (⟨.sl t, (n, xs)⟩, [c])
    | some (.rowl t n xs i [] _) => some (⟨.hsl t, (n, holeAt xs i)⟩, [c])
    | some (.fz t x) => some (⟨t, x⟩, [])
    | _ => none
  | .sub c sz lo hi =>
    match g c with
    | some (.row t _ n xs) => (match sz == size t with
      | true => some (⟨.sl t, (n, (xs.take hi).drop lo)⟩, [c])
      | false => none)
    | some (.fz (.sl t) x) => (match sz == size t with
      | true => some (⟨.sl t, (x.1, (x.2.take hi).drop lo)⟩, [])
      | false => none)
    | _ => none
  | .one a =>
    match view0 g a with
    | some (d, l) => some (⟨.one d.1, d.2⟩, l)
    | none => none
  | .pair a b =>
    match view0 g a, view0 g b with
    | some (d, l), some (e, m) => some (⟨.pair d.1 e.1, (d.2, e.2)⟩, l ++ m)
    | _, _ => none
  | _ => none

/-- what lies behind a pointer; no function value there -/
def viewP0 (g : Look) : SV → Option (D × List Nat)
  | .sp t x => some (⟨t, x⟩, [])
  | .ptr c p =>
    match g c with
    | some (.box a) =>
      match a.get p with
      | some b => (match view0 g b with
        | some (d, l) => some (d, c :: l)
        | none => none)
      | none => none
    | some (.fzb t x) =>
      match Den.get t x p with
      | some d => some (d, [])
      | none => none
    | some (.row t _ _ xs) =>
      match p with
      | .el i sz :: q => (match sz == size t with
        | true => (match Den.get t (xs.getD i (dflt t)) q with
          | some d => some (d, [c])
          | none => none)
        | false => none)
      | _ => none
    | _ => none
  | _ => none

/-- the captured variables of a function value, none of them a function -/
def viewC0 (g : Look) : SV → Option (D × List Nat)
  | .unit => some (⟨.nil, ()⟩, [])
  | .tup a b =>
    match viewP0 g a, viewC0 g b with
    | some (d, l), some (e, m) => some (⟨.pair d.1 e.1, (d.2, e.2)⟩, l ++ m)
    | _, _ => none
  | _ => none

/-- a function value may be seen, too -/
def view1 (g : Look) (a : SV) : Option (D × List Nat) :=
  match a with
  | .clo f caps =>
    match viewC0 g caps with
    | some (d, l) => some (⟨.fn f d.1, d.2⟩, l)
    | none => none
  | a => view0 g a

/-- what lies behind a pointer -/
def viewP (g : Look) : SV → Option (D × List Nat)
  | .sp t x => some (⟨t, x⟩, [])
  | .ptr c p =>
    match g c with
    | some (.box a) =>
      match a.get p with
      | some b => (match view1 g b with
        | some (d, l) => some (d, c :: l)
        | none => none)
      | none => none
    | some (.fzb t x) =>
      match Den.get t x p with
      | some d => some (d, [])
      | none => none
    | some (.row t _ _ xs) =>
      match p with
      | .el i sz :: q => (match sz == size t with
        | true => (match Den.get t (xs.getD i (dflt t)) q with
          | some d => some (d, [c])
          | none => none)
        | false => none)
      | _ => none
    | _ => none
  | _ => none

/-- the captured variables of a function value -/
def viewC (g : Look) : SV → Option (D × List Nat)
  | .unit => some (⟨.nil, ()⟩, [])
  | .tup a b =>
    match viewP g a, viewC g b with
    | some (d, l), some (e, m) => some (⟨.pair d.1 e.1, (d.2, e.2)⟩, l ++ m)
    | _, _ => none
  | _ => none

def view (g : Look) (a : SV) : Option (D × List Nat) :=
  match a with
  | .clo f caps =>
    match viewC g caps with
    | some (d, l) => some (⟨.fn f d.1, d.2⟩, l)
    | none => none
  | a => view0 g a

structure Acc where
  mp : List (Nat × Nat × Bool)
  vw : List Nat

def Acc.add (a : Acc) (c r : Nat) (full : Bool) : Acc := { a with mp := (c, r, full) :: a.mp }
def Acc.see (a : Acc) (l : List Nat) : Acc := { a with vw := l ++ a.vw }
def Acc.has (a : Acc) (c r : Nat) : Bool := a.mp.any fun e => e.1 == c && e.2.1 == r && e.2.2
def nodupB : List Nat → Bool
  | [] => true
  | a :: l => !l.contains a && nodupB l
def Acc.ok (a : Acc) : Bool := nodupB (a.mp.map fun e => e.2.1) && a.vw.all fun c => !(a.mp.any fun e => e.2.1 == c)

def castL (t u : Ty) (xs : List (Den t)) : Option (List (Den u)) := if h : t = u then some (h ▸ xs) else none

def ext (g : Look) : SS → SV → Acc → M (List D × Acc)
  | .any, _, c => .ret ([], c)
  | .v t, a, c =>
    match a with
    | .nilv => (match t with
      | .sl u => .ret ([⟨.sl u, (true, [])⟩], c)
      | _ => .fail)
    | a => match view g a with
      | some (d, l) => (match d.to t with
        | some x => .ret ([⟨t, x⟩], c.see l)
        | none => .fail)
      | none => .fail
  | .nl t, a, c =>
    match a with
    | .nilv => .ret ([], c)
    | .v u x => (match cast u (.sl t) x with
      | some y => .ite y.1 (.ret ([], c)) .fail
      | none => .fail)
    | _ => .fail
  | .sp t, a, c =>
    match viewP g a with
    | some (d, l) => (match d.to t with
      | some x => .ret ([⟨t, x⟩], c.see l)
      | none => .fail)
    | none => .fail
  | .own k t deep, a, c =>
    match a with
    | .ref r => (match g r with
      | some (.row u dp n xs) => (match castL u t xs with
        | some ys => (match !deep || dp with
          | true => .ret ([⟨.sl t, (n, ys)⟩], c.add k r true)
          | false => .fail)
        | none => .fail)
      | _ => .fail)
    | .sub r sz lo hi => (match g r with
      | some (.row u dp n xs) => (match castL u t xs with
        | some ys => (match (!deep || dp) && (sz == size t) with
          | true => .ret ([⟨.sl t, (n, (ys.take hi).drop lo)⟩], c.add k r false)
          | false => .fail)
        | none => .fail)
      | _ => .fail)
    | .nilv => .ret ([⟨.sl t, (true, [])⟩], c)
    | .v u x => (match cast u (.sl t) x with
      | some y => .ite y.1 (.ret ([⟨.sl t, (true, [])⟩], c)) .fail
      | none => .fail)
    | _ => .fail
  | .map k0 k v, a, c =>
    match a with
    | .ref r => (match g r with
      | some (.map k' v' es) => (match castL (.pair k' v') (.pair k v) es with
        | some ys => .ret ([⟨.sl (.pair k v), (false, ys)⟩], c.add k0 r true)
        | none => .fail)
      | _ => .fail)
    | _ => .fail
  | .box k s, a, c =>
    match a, s.isAny with
    | .ptr r [], false => (match g r with
      | some (.box b) => ext g s b (c.add k r true)
      | _ => .fail)
    | _, _ => .fail
  | .ref k, a, c =>
    match a with
    | .ref r => (match c.has k r with
      | true => .ret ([], c)
      | false => .fail)
    | _ => .fail
  | .subr k t, a, c =>
    match a with
    | .sub r sz lo hi => (match c.has k r && (sz == size t) with
      | true => .ret ([⟨.int .i64, (lo : Int)⟩, ⟨.int .i64, (hi : Int)⟩], c)
      | false => .fail)
    | _ => .fail
  | .ptr k, a, c =>
    match a with
    | .ptr r [] => (match c.has k r with
      | true => .ret ([], c)
      | false => .fail)
    | _ => .fail
  | .one s, a, c =>
    match a, s.isAny with
    | .one b, false => ext g s b c
    | .v (.one t) x, false => ext g s (.v t x) c
    | _, _ => .fail
  | .pair s s', a, c =>
    match a, s.isAny || s'.isAny with
    | .pair b b', false => (ext g s b c).bind fun r => (ext g s' b' r.2).bind fun r' => .ret (r.1 ++ r'.1, r'.2)
    | .v (.pair t u) x, false => (ext g s (.v t x.1) c).bind fun r => (ext g s' (.v u x.2) r.2).bind fun r' => .ret (r.1 ++ r'.1, r'.2)
    | _, _ => .fail
  | .unit, a, c =>
    match a with
    | .unit => .ret ([], c)
    | _ => .fail
  | .tup s s', a, c =>
    match a, s.isChain || !s'.isChain with
    | .tup b b', false => (ext g s b c).bind fun r => (ext g s' b' r.2).bind fun r' => .ret (r.1 ++ r'.1, r'.2)
    | _, _ => .fail
  | .clo f s, a, c =>
    match a with
    | .clo h b => (match f == h && s.isChain with
      | true => ext g s b c
      | false => .fail)
    | _ => .fail

structure Reb where
  sv : SV
  rs : List (Nat × Rg)
  rest : List D

def reb : SS → List D → Option Reb
  | .any, ds => some ⟨.dead, [], ds⟩
  | .v _, d :: ds => some ⟨.v d.1 d.2, [], ds⟩
  | .nl t, ds => some ⟨.v (.sl t) (true, []), [], ds⟩
  | .sp _, d :: ds => some ⟨.sp d.1 d.2, [], ds⟩
  | .own c _ deep, ⟨.sl u, x⟩ :: ds => some ⟨.ref c, [(c, .row u deep x.1 x.2)], ds⟩
  | .map c _ _, ⟨.sl (.pair k v), x⟩ :: ds => some ⟨.ref c, [(c, .map k v x.2)], ds⟩
  | .box c s, ds =>
    match reb s ds with
    | some r => some ⟨.ptr c [], (c, .box r.sv) :: r.rs, r.rest⟩
    | none => none
  | .ref c, ds => some ⟨.ref c, [], ds⟩
  | .subr c t, ⟨.int .i64, x⟩ :: ⟨.int .i64, y⟩ :: ds => some ⟨.sub c (size t) (Int.toNat x) (Int.toNat y), [], ds⟩
  | .ptr c, ds => some ⟨.ptr c [], [], ds⟩
  | .one s, ds =>
    match reb s ds with
    | some r => some ⟨mkOne r.sv, r.rs, r.rest⟩
    | none => none
  | .pair s s', ds =>
    match reb s ds with
    | some r => (match reb s' r.rest with
      | some r' => some ⟨mkPair r.sv r'.sv, r.rs ++ r'.rs, r'.rest⟩
      | none => none)
    | none => none
  | .unit, ds => some ⟨.unit, [], ds⟩
  | .tup s s', ds =>
    match reb s ds with
    | some r => (match reb s' r.rest with
      | some r' => some ⟨.tup r.sv r'.sv, r.rs ++ r'.rs, r'.rest⟩
      | none => none)
    | none => none
  | .clo f s, ds =>
    match reb s ds with
    | some r => some ⟨.clo f r.sv, r.rs, r.rest⟩
    | none => none
  | _, _ => none

end Go.Rf

namespace Go.Rf

inductive Ex where
  | normal | exit (id : Nat) | ret
  deriving DecidableEq

structure LoopH where
  head : List (Nat × SS)
  exits : List (Ex × List (Nat × SS))
  keep : List Nat

/-- bk: the parameters' regions whose content is handed back (they come first in outs), nres: how many results, nat: a function of the library whose contract is known -/
structure FnH where
  fid : Nat
  f : Func
  pars : SS
  outs : SS
  bk : List Nat
  site : List (Nat × Nat)
  loops : List (Nat × LoopH)
  joins : List (Nat × LoopH)
  frz : List Nat
  nat : Option (Den (tyOf pars.tys) → Option (Den (tyOf outs.tys)))

/-- functions without a body, as the model answers them -/
inductive ExtF where
  | add64
  | backward (iter : Nat)
  | clone (E : Nat)

structure Hints where
  extF : Nat → Option ExtF
  ty : Nat → Option Ty
  nf : Nat → Nat
  cell : Nat → Bool
  mty : Nat → Option (Nat × Nat)
  key : Nat → Option FnH
  iter : Nat → Option Nat

def lookupN {α : Type} : List (Nat × α) → Nat → Option α
  | [], _ => none
  | (k, a) :: l, n => bif k == n then some a else lookupN l n

def exTys (e : Ex × List (Nat × SS)) : List Ty := e.2.flatMap fun x => x.2.tys
def ExTy : List (Ex × List (Nat × SS)) → Type
  | [] => Empty
  | [e] => Den (tyOf (exTys e))
  | e :: f :: r => Den (tyOf (exTys e)) ⊕ ExTy (f :: r)

def aTys (H : Hints) (key : Nat) : List Ty := match H.key key with
  | some h => h.pars.tys
  | none => []
def rTys (H : Hints) (key : Nat) : List Ty := match H.key key with
  | some h => h.outs.tys
  | none => []
def loopOf (H : Hints) (key n : Nat) : LoopH := match H.key key with
  | some h => (match lookupN h.loops n with
    | some l => l
    | none => ⟨[], [], []⟩)
  | none => ⟨[], [], []⟩
def hTys (l : LoopH) : List Ty := l.head.flatMap fun x => x.2.tys

structure Fns (H : Hints) where
  call : (key : Nat) → Den (tyOf (aTys H key)) → Option (Den (tyOf (rTys H key)))
  loop : (key n : Nat) → Code → Den (tyOf (hTys (loopOf H key n))) → Option (ExTy (loopOf H key n).exits)

structure Eff where
  val : SV
  upd : List (Nat × Rg)

section
variable (H : Hints)

def lim : Nat := 1099511627776

/-- nil without a kind gets one -/
def typed (T : Nat) (a : SV) : SV :=
  match a with
  | .nilv => (match H.ty T with
    | some (.sl t) => .v (.sl t) (true, [])
    | _ => .nilv)
  | a => a

/-- is it a struct, and of how many cells -/
def agOf (T : Nat) : Option (Bool × Nat) :=
  match H.ty T with
  | some t => some (isAgg t, size t)
  | none => bif H.cell T then some (false, 1) else none

def SV.ag : SV → Option (Bool × Nat)
  | .v t _ => some (isAgg t, Rf.size t)
  | .one a => some (true, a.size)
  | .pair a b => some (true, a.size + b.size)
  | .dead => none
  | .unit => none
  | .tup _ _ => none
  | _ => some (false, 1)

/-- a value that is owned through and through, and the regions that it takes in -/
def toDeep (g : Look) : SV → Option (D × List Nat)
  | .v t x => match flat t with
    | true => some (⟨t, x⟩, [])
    | false => none
  | .ref c =>
    match g c with
    | some (.row t dp n xs) => (match flat t || dp with
      | true => some (⟨.sl t, (n, xs)⟩, [c])
      | false => none)
    | _ => none
  | .one a =>
    match toDeep g a with
    | some (d, l) => some (⟨.one d.1, d.2⟩, l)
    | none => none
  | .pair a b =>
    match toDeep g a, toDeep g b with
    | some (d, l), some (e, m) => some (⟨.pair d.1 e.1, (d.2, e.2)⟩, l ++ m)
    | _, _ => none
  | _ => none

def freezeRg (g : Look) (r : Rg) : Rg :=
  match r with
  | .row t _ n xs => .fz (.sl t) (n, xs)
  | .box a => (match view0 g a with
    | some (d, []) => .fzb d.1 d.2
    | _ => .gone)
  | .rowl _ _ _ _ _ _ => .gone
  | .map _ _ _ => .gone
  | r => r

def frzOf (g : Look) (c : Nat) : Rg := match g c with
  | some r => freezeRg g r
  | none => .gone

def frozen (g : Look) (l : List Nat) : List (Nat × Rg) := l.map fun c => (c, frzOf g c)

/-- the elements of a row that is written out: (kind, elements, deep, regions taken in, regions frozen) -/
def elemsOf (g : Look) (frz : Bool) (t : Ty) : List SV → Option (List (Den t) × List Nat × List Nat × Bool)
  | [] => some ([], [], [], true)
  | a :: r =>
    match elemsOf g frz t r with
    | none => none
    | some (xs, gs, fs, dp) =>
      match frz, toDeep g a with
      | false, some (d, l) => (match d.to t with
        | some x => some (x :: xs, l ++ gs, fs, dp)
        | none => none)
      | _, _ => (match a with
        | .nilv => (match d0 t with
          | some x => some (x :: xs, gs, fs, dp)
          | none => none)
        | a => match view g a with
          | some (d, l) => (match d.to t with
            | some x => some (x :: xs, gs, l ++ fs, flat t)
            | none => none)
          | none => none)
where
  d0 (t : Ty) : Option (Den t) := match t with
    | .sl _ => some (true, [])
    | _ => none

/-- the region d must be new -/
def fresh (g : Look) (d : Nat) (m : M Eff) : M Eff := match g d with
  | none => m
  | some _ => .fail

/-- deep only if no element was frozen -/
def buildSliceE (g : Look) (d : Nat) (frz : Bool) (t : Ty) (parts : List SV) : M Eff := fresh g d <|
  match elemsOf g frz t parts with
  | some (xs, gs, fs, dp) =>
    (match nodupB (gs ++ fs) with
    | true => .ret ⟨.ref d, (d, .row t dp false xs) :: (gs.map fun c => (c, Rg.gone)) ++ frozen g fs⟩
    | false => .fail)
  | none => .fail

/-- a row whose lent place is put back -/
def settled (g : Look) (r : Rg) : Option (Rg × List Nat) :=
  match r with
  | .rowl t n xs i q d =>
    match g d with
    | some (.row u dp m ys) => (match flat u || dp with
      | true => (match Den.set t (xs.getD i (dflt t)) q ⟨.sl u, (m, ys)⟩ with
        | some e => some (.row t true n (xs.set i e), [d])
        | none => none)
      | false => none)
    | _ => none
  | r => some (r, [])

def loadE (g : Look) (d : Nat) (ag : Bool × Nat) (a : SV) : M Eff :=
  let done (x : SV) (upd : List (Nat × Rg)) : M Eff := match decide (x.ag = some ag) with
    | true => .ret ⟨x, upd⟩
    | false => .fail
  match a with
  | .sp t x => done (.v t x) []
  | .ptr c p =>
    (match g c with
    | some (.box b) => (match b.get p with
      | some x => done x []
      | none => .fail)
    | some (.fzb t x) => (match Den.get t x p with
      | some e => done (.v e.1 e.2) []
      | none => .fail)
    | some (.fz (.sl t) x) => (match p with
      | .el i sz :: q => (match sz == size t, Den.get t (x.2.getD i (dflt t)) q with
        | true, some e => done (.v e.1 e.2) []
        | _, _ => .fail)
      | _ => .fail)
    | some r => (match settled g r, p with
      | some (.row t dp n xs, gs), .el i sz :: q =>
        (match sz == size t, Den.get t (xs.getD i (dflt t)) q with
        | true, some ⟨u, y⟩ => (match flat u || !dp with
          | true => done (.v u y) (match gs with
            | [] => []
            | _ => (c, .row t dp n xs) :: gs.map fun e => (e, Rg.gone))
          | false => (match u, y with
            | .sl w, y => fresh g d <| done (.ref d) ((c, .rowl t n xs i q d) :: (d, .row w true y.1 y.2) :: gs.map fun e => (e, Rg.gone))
            | _, _ => .fail))
        | _, _ => .fail)
      | _, _ => .fail)
    | none => .fail)
  | _ => .fail

def storeRow (g : Look) (c : Nat) (t : Ty) (dp n : Bool) (xs : List (Den t)) (gs : List Nat) (i : Nat) (q : List Step) (x : SV) : M Eff :=
  let put (e : D) (dp' : Bool) (upd : List (Nat × Rg)) : M Eff :=
    match Den.set t (xs.getD i (dflt t)) q e with
    | some y => .ret ⟨.unit, (c, .row t dp' n (xs.set i y)) :: upd⟩
    | none => .fail
  match (if dp then toDeep g x else none) with
  | some (e, l) => (match nodupB (c :: (l ++ gs)) with
    | true => put e dp ((l ++ gs).map fun k => (k, Rg.gone))
    | false => .fail)
  | none => (match view g x with
    | some (e, l) => (match nodupB (c :: (l ++ gs)) with
      | true => put e (flat t) (frozen g l ++ gs.map fun k => (k, Rg.gone))
      | false => .fail)
    | none => .fail)

def storeE (g : Look) (ag : Bool × Nat) (a x : SV) : M Eff :=
  match decide (x.ag = some ag) with
  | false => .fail
  | true =>
    match a with
    | .ptr c p =>
      (match g c with
      | some (.box b) => (match b.set p x with
        | some b' => .ret ⟨.unit, [(c, .box b')]⟩
        | none => .fail)
      | some (.row t dp n xs) => (match p with
        | .el i sz :: q => (match sz == size t with
          | true => storeRow g c t dp n xs [] i q x
          | false => .fail)
        | _ => .fail)
      | some (.rowl t n xs j r d) => (match p with
        | .el i sz :: q => (match sz == size t with
          | true => (match g d with
            | some (.row _ _ _ _) => (match settled g (.rowl t n xs j r d) with
              | some (.row t dp n xs, gs) => storeRow g c t dp n xs gs i q x
              | _ => .fail)
            | _ => (match decide (q = r) with
              | true => .ite (j == i) (storeRow g c t true n xs [] i q x) .fail
              | false => .fail))
          | false => .fail)
        | _ => .fail)
      | _ => .fail)
    | _ => .fail

/-! whole numbers -/
def bitsOp (op : BinOp) (k : IntKind) (x y : Int) : Option Int :=
  let a := BitVec.ofInt k.bits x
  let b := BitVec.ofInt k.bits y
  match op with
  | .and => some (k.wrap (a &&& b).toNat)
  | .or => some (k.wrap (a ||| b).toNat)
  | .xor => some (k.wrap (a ^^^ b).toNat)
  | .andNot => some (k.wrap (a &&& ~~~b).toNat)
  | _ => none

def eqD : (t : Ty) → Den t → Den t → Option Bool
  | .int _, x, y => some ((x : Int) == (y : Int))
  | .bool, x, y => some ((x : Bool) == (y : Bool))
  | .nil, _, _ => some true
  | .one a, x, y => eqD a x y
  | .pair a b, x, y =>
    match eqD a x.1 y.1, eqD b x.2 y.2 with
    | some p, some q => some (p && q)
    | _, _ => none
  | _, _, _ => none

def nilOf (g : Look) : SV → Option Bool
  | .v (.sl _) x => some x.1
  | .ref c => match g c with
    | some (.row _ _ n _) => some n
    | some (.rowl _ n _ _ _ _) => some n
    | some (.fz (.sl _) x) => some x.1
    | _ => none
  | .nilv => some true
  | _ => none

def binE (g : Look) (op : BinOp) (T : Nat) (a b : SV) : M Eff :=
  let v (t : Ty) (x : Den t) : M Eff := .ret ⟨.v t x, []⟩
  let nil (z : SV) : M Eff := match H.ty T with
    | some (.sl _) => (match op, nilOf g z with
      | .eql, some n => v .bool n
      | .neq, some n => v .bool (!n)
      | _, _ => .fail)
    | _ => .fail
  match a, b with
  | .v (.int k) x, .v (.int k') y =>
    (match op with
    | .shl => .ite (decide ((y : Int) < 0)) .fail (v (.int k) (k.wrap (x * 2 ^ (min (Int.toNat y) k.bits))))
    | .shr => .ite (decide ((y : Int) < 0)) .fail (v (.int k) (Int.fdiv x (2 ^ (min (Int.toNat y) k.bits))))
    | op => match decide (k = k') with
      | false => .fail
      | true =>
        (match op with
        | .add => v (.int k) (k.wrap (x + y))
        | .sub => v (.int k) (k.wrap (x - y))
        | .mul => v (.int k) (k.wrap (x * y))
        | .quo => .ite ((y : Int) == 0) .fail (v (.int k) (k.wrap (Int.tdiv x y)))
        | .rem => .ite ((y : Int) == 0) .fail (v (.int k) (Int.tmod x y))
        | .eql => v .bool ((x : Int) == y)
        | .neq => v .bool ((x : Int) != y)
        | .lss => v .bool (decide ((x : Int) < y))
        | .leq => v .bool (decide ((x : Int) ≤ y))
        | .gtr => v .bool (decide ((x : Int) > y))
        | .geq => v .bool (decide ((x : Int) ≥ y))
        | op => (match bitsOp op k x y with
          | some z => v (.int k) z
          | none => .fail)))
  | a, .nilv => nil a
  | .nilv, b => nil b
  | .v t x, .v u y =>
    (match cast u t y, H.ty T with
    | some y', some t' => (match decide (t = t') with
      | true => (match op, eqD t x y' with
        | .eql, some e => v .bool e
        | .neq, some e => v .bool (!e)
        | _, _ => .fail)
      | false => .fail)
    | _, _ => .fail)
  | _, _ => .fail

def unE (op : UnOp) (a : SV) : M Eff :=
  match op, a with
  | .neg, .v (.int k) n => .ret ⟨.v (.int k) (k.wrap (0 - n)), []⟩
  | .xor, .v (.int k) n => (match bitsOp .xor k (if k.signed then -1 else k.max) n with
    | some z => .ret ⟨.v (.int k) z, []⟩
    | none => .fail)
  | .not, .v .bool b => .ret ⟨.v .bool (!b), []⟩
  | _, _ => .fail

/-- a slice's kind, nil, length -/
def lenOf (g : Look) : SV → Option Int
  | .v (.sl _) x => some (x.2.length : Int)
  | .ref c => match g c with
    | some (.row _ _ _ xs) => some (xs.length : Int)
    | some (.rowl _ _ xs _ _ _) => some (xs.length : Int)
    | some (.fz (.sl _) x) => some (x.2.length : Int)
    | _ => none
  | .sub _ _ lo hi => some ((hi - lo : Nat) : Int)
  | .nilv => some 0
  | _ => none

def bounds (lo hi : Option Int) (len : Nat) (k : Nat → Nat → Eff) : M Eff :=
  match lo, hi with
  | none, none => .ret (k 0 len)
  | some l, none => .ite (decide (0 ≤ l)) (.ite (decide (l ≤ len)) (.ret (k l.toNat len)) .fail) .fail
  | none, some h => .ite (decide (0 ≤ h)) (.ite (decide (h ≤ len)) (.ret (k 0 h.toNat)) .fail) .fail
  | some l, some h => .ite (decide (0 ≤ h)) (.ite (decide (h ≤ len)) (.ite (decide (0 ≤ l)) (.ite (decide (l ≤ h)) (.ret (k l.toNat h.toNat)) .fail) .fail) .fail) .fail

/-! maps, whose keys and elements are flat -/
def mapFind (k v : Ty) (es : List (Den (.pair k v))) (x : Den k) : Option Nat := es.findIdx? fun e => eqD k x e.1 == some true
def mapGet (k v : Ty) (es : List (Den (.pair k v))) (x : Den k) : Option (Den v) := match mapFind k v es x with
  | some i => some (es.getD i (dflt (.pair k v))).2
  | none => none
def mapSet (k v : Ty) (es : List (Den (.pair k v))) (x : Den k) (y : Den v) : List (Den (.pair k v)) := match mapFind k v es x with
  | some i => es.set i (x, y)
  | none => es ++ [(x, y)]

/-- the kinds of a map's keys and elements: whole numbers, or arrays of two as keys -/
def mapTy (T : Nat) : Option (Ty × Ty) := match H.mty T with
  | some (K, E) => (match H.ty K, H.ty E with
    | some (.int .i64), some (.int .i64) => some (.int .i64, .int .i64)
    | some (.pair (.int .i64) (.int .i64)), some (.int .i64) => (match H.nf K with
      | 0 => some (.pair (.int .i64) (.int .i64), .int .i64)
      | _ => none)
    | _, _ => none)
  | none => none

/-- a map's region, read as keys and elements of these kinds -/
def mapAt (g : Look) (k v : Ty) : SV → Option (Nat × List (Den (.pair k v)))
  | .ref c => (match g c with
    | some (.map k' v' es) => (match castL (.pair k' v') (.pair k v) es with
      | some ys => some (c, ys)
      | none => none)
    | _ => none)
  | _ => none

def datum (t : Ty) : SV → Option (Den t)
  | .v u x => cast u t x
  | _ => none

def lookupE (g : Look) (T : Nat) (ok : Bool) (m x : SV) : M Eff := match mapTy H T with
  | some (k, v) => (match mapAt g k v m, datum k x with
    | some (_, es), some key =>
      let y : Den v := (mapGet k v es key).getD (dflt v)
      (match ok with
      | true => .ret ⟨.tup (.v v y) (.tup (.v .bool (mapGet k v es key).isSome) .unit), []⟩
      | false => .ret ⟨.v v y, []⟩)
    | _, _ => .fail)
  | none => .fail

def updateE (g : Look) (T : Nat) (m x y : SV) : M Eff := match mapTy H T with
  | some (k, v) => (match mapAt g k v m, datum k x, datum v y with
    | some (c, es), some key, some z => .ret ⟨.unit, [(c, .map k v (mapSet k v es key z))]⟩
    | _, _, _ => .fail)
  | none => .fail

def mapLenE (g : Look) (T : Nat) (m : SV) : M Eff := match mapTy H T with
  | some (k, v) => (match mapAt g k v m with
    | some (_, es) => .ite (decide (es.length ≤ lim)) (.ret ⟨.v (.int .i64) (es.length : Int), []⟩) .fail
    | none => .fail)
  | none => .fail

def sliceE (u : Ty) (g : Look) (a : SV) (lo hi : Option Int) : M Eff :=
  match a with
  | .v (.sl t) x => (match decide (t = u) with
    | true => bounds lo hi x.2.length fun l h => ⟨.v (.sl t) (x.1, (x.2.take h).drop l), []⟩
    | false => .fail)
  | .ref c => (match g c with
    | some (.row t _ _ xs) => (match decide (t = u) with
      | true => bounds lo hi xs.length fun l h => ⟨.sub c (size t) l h, []⟩
      | false => .fail)
    | some (.fz (.sl t) x) => (match decide (t = u) with
      | true => bounds lo hi x.2.length fun l h => ⟨.v (.sl t) (x.1, (x.2.take h).drop l), []⟩
      | false => .fail)
    | _ => .fail)
  | .sub c sz p q => (match g c with
    | some (.row t _ _ _) => (match decide (t = u), sz == size u with
      | true, true => bounds lo hi (q - p) fun l h => ⟨.sub c sz (p + l) (p + h), []⟩
      | _, _ => .fail)
    | _ => .fail)
  | _ => .fail

def at_ (len : Nat) (n : Int) (r : Eff) : M Eff := .ite (decide (0 ≤ n)) (.ite (decide (n < len)) (.ret r) .fail) .fail

def indexE (u : Ty) (g : Look) (a : SV) (n : Int) : M Eff :=
  match a with
  | .v (.sl t) x => (match decide (t = u) with
    | true => at_ x.2.length n ⟨.sp t (x.2.getD n.toNat (dflt t)), []⟩
    | false => .fail)
  | .v (.hsl t) x => (match decide (t = u) with
    | true => .ite (decide (0 ≤ n)) (.ite (decide (n < x.2.length)) (.ask (Den t) (x.2.getD n.toNat none) fun y => .ret ⟨.sp t y, []⟩) .fail) .fail
    | false => .fail)
  | .ref c => (match g c with
    | some (.row t _ _ xs) => (match decide (t = u) with
      | true => at_ xs.length n ⟨.ptr c [.el n.toNat (size t)], []⟩
      | false => .fail)
    | some (.rowl t _ xs _ _ _) => (match decide (t = u) with
      | true => at_ xs.length n ⟨.ptr c [.el n.toNat (size t)], []⟩
      | false => .fail)
    | some (.fz (.sl t) x) => (match decide (t = u) with
      | true => at_ x.2.length n ⟨.sp t (x.2.getD n.toNat (dflt t)), []⟩
      | false => .fail)
    | _ => .fail)
  | .sub c sz p q => (match g c with
    | some (.row t _ _ _) => (match decide (t = u), sz == size u with
      | true, true => at_ (q - p) n ⟨.ptr c [.el (p + n.toNat) sz], []⟩
      | _, _ => .fail)
    | some (.fz (.sl t) x) => (match decide (t = u), sz == size u with
      | true, true => at_ (q - p) n ⟨.sp t (x.2.getD (p + n.toNat) (dflt t)), []⟩
      | _, _ => .fail)
    | _ => .fail)
  | _ => .fail

/-- the row that an append is made to: nil, elements, deep, and the region that is used up -/
def baseOf (g : Look) (t : Ty) : SV → M (Bool × List (Den t) × Bool × List Nat)
  | .nilv => .ret (true, [], true, [])
  | .v u x => (match cast u (.sl t) x with
    | some y => .ite y.1 (.ret (true, [], true, [])) .fail
    | none => .fail)
  | .ref c => (match g c with
    | some (.row u dp n xs) => (match castL u t xs with
      | some ys => .ret (n, ys, dp, [c])
      | none => .fail)
    | _ => .fail)
  | .sub c sz lo hi => (match g c with
    | some (.row u dp n xs) => (match castL u t xs, sz == size t with
      | some ys, true => .ret (n, (ys.take hi).drop lo, dp, [c])
      | _, _ => .fail)
    | _ => .fail)
  | _ => .fail

/-- a row is appended to itself only where its elements are flat -/
def selfOk (f : Bool) (e : Nat) (l : List Nat) : Bool := bif f then true else nodupB (e :: l)

def appendE (g : Look) (d : Nat) (frz : Bool) (t : Ty) (a b : SV) : M Eff := fresh g d <|
  (baseOf g t a).bind fun r =>
    let fin (ys : List (Den t)) (dp : Bool) (upd : List (Nat × Rg)) : M Eff :=
      .ite (decide (r.2.1.length + ys.length ≤ lim)) (.ret ⟨.ref d, (d, .row t dp (r.1 && ys.isEmpty) (r.2.1 ++ ys)) :: upd ++ r.2.2.2.map fun c => (c, Rg.gone)⟩) .fail
    match b with
    | .v (.int _) n => .ite (decide (0 ≤ (n : Int))) (.ite (decide ((n : Int) ≤ (lim : Int))) (fin (List.replicate (Int.toNat n) (dflt t)) (flat t && r.2.2.1) []) .fail) .fail
    | .ref e =>
      (match g e, !frz with
      | some (.row u true _ ys), true =>
        (match castL u t ys, flat t, r.2.2.1, selfOk (flat t) e r.2.2.2 with
        | some zs, false, true, true => fin zs true [(e, .gone)]
        | some zs, true, _, true => fin zs (flat t) []
        | some zs, false, false, true => fin zs false (frozen g [e])
        | _, _, _, _ => .fail)
      | some (.row u _ _ ys), _ =>
        (match castL u t ys, selfOk (flat t) e r.2.2.2 with
        | some zs, true => (match flat t with
          | true => fin zs true []
          | false => fin zs false (frozen g [e]))
        | _, _ => .fail)
      | some (.fz w x), _ => (match cast w (.sl t) x with
        | some y => fin y.2 (flat t) []
        | none => .fail)
      | _, _ => .fail)
    | .nilv => fin [] r.2.2.1 []
    | b => match view g b with
      | some (e, l) => (match e.to (.sl t), nodupB (l ++ r.2.2.2) with
        | some y, true => (match flat t with
          | true => fin y.2 true []
          | false => fin y.2 false (frozen g l))
        | _, _ => .fail)
      | none => .fail

def capSV : (c : Ty) → Den c → Option SV
  | .nil, _ => some .unit
  | .pair a r, x => (match capSV r x.2 with
    | some s => some (.tup (.sp a x.1) s)
    | none => none)
  | _, _ => none

def tupOf : List SV → SV
  | [] => .unit
  | a :: l => .tup a (tupOf l)

def tupApp : SV → SV → SV
  | .tup a b, c => .tup a (tupApp b c)
  | _, c => c

def SV.ren (f : Nat → Nat) : SV → SV
  | .ref c => .ref (f c)
  | .sub c sz lo hi => .sub (f c) sz lo hi
  | .ptr c p => .ptr (f c) p
  | .one a => .one (a.ren f)
  | .pair a b => .pair (a.ren f) (b.ren f)
  | .tup a b => .tup (a.ren f) (b.ren f)
  | .clo h a => .clo h (a.ren f)
  | a => a

def Rg.ren (f : Nat → Nat) : Rg → Rg
  | .box a => .box (a.ren f)
  | r => r

/-- drop the values handed back -/
def tupDrop : Nat → SV → SV
  | n + 1, .tup _ b => tupDrop n b
  | _, a => a

def shared : SS → Bool
  | .v t => !flat t
  | .sp _ => true
  | .own _ t deep => !deep && !flat t
  | .box _ a => shared a
  | .one a => shared a
  | .pair a b => shared a || shared b
  | .tup a b => shared a || shared b
  | .clo _ _ => true
  | _ => false

/-- the values handed back, as they lie in the callee -/
def backSVs (pars : SS) : SV := go pars .unit
where
  go : SS → SV → SV
    | .own c _ _, r => .tup (.ref c) r
    | .box c _, r => .tup (.ptr c []) r
    | .one a, r => go a r
    | .pair a b, r => go a (go b r)
    | .tup a b, r => go a (go b r)
    | .clo _ a, r => go a r
    | _, r => r

def callE (p : Fns H) (g : Look) (d : Nat) (key f : Nat) (args : SV) : M Eff :=
  match H.key key with
  | none => .fail
  | some h =>
    match h.fid == f with
    | false => .fail
    | true =>
      (ext g h.pars args ⟨[], []⟩).bind fun r =>
        match r.2.ok, pack (aTys H key) r.1 with
        | true, some x =>
          .ask _ (p.call key x) fun y =>
            match reb h.outs (unpack (rTys H key) y) with
            | some s =>
              let ren : Nat → Nat := fun c => match r.2.mp.find? fun e => e.1 == c with
                | some e => e.2.1
                | none => d + 4096 * (c + 1)
              let val := tupDrop h.bk.length s.sv
              let val := match val with
                | .tup a .unit => a
                | a => a
              let news := s.rs.map fun e => (ren e.1, e.2.ren ren)
              let lost := (r.2.mp.filter fun e => !(news.any fun n => n.1 == e.2.1)).map fun e => (e.2.1, Rg.gone)
              match nodupB (news.map (·.1)) && (s.rs.all fun e => match r.2.mp.find? fun m => m.1 == e.1 with
                | some m => m.2.2
                | none => (match g (d + 4096 * (e.1 + 1)) with
                  | none => true
                  | some _ => false)) with
              | false => .fail
              | true => .ret ⟨val.ren ren, news ++ lost ++ (match shared h.outs with
                | true => frozen g r.2.vw
                | false => [])⟩
            | none => .fail
        | _, _ => .fail

def extE (e : ExtF) (args : SV) : M Eff :=
  match e, args with
  | .add64, .tup (.v (.int .u64) x) (.tup (.v (.int .u64) y) (.tup (.v (.int .u64) c) .unit)) =>
    .ite (decide (c ≤ (1 : Int))) (.ret ⟨.tup (.v (.int .u64) ((x + y + c) % 18446744073709551616 : Int)) (.tup (.v (.int .u64) ((x + y + c) / 18446744073709551616 : Int)) .unit), []⟩) .fail
  | _, _ => .fail

/-- slices.Backward hands back a function value over a variable that holds the slice -/
def backE (g : Look) (d gf : Nat) (args : SV) : M Eff :=
  match args, H.iter gf with
  | .tup a .unit, some _ => (match lenOf g a, a.ag with
    | some _, some (false, 1) => fresh g d (.ret ⟨.clo gf (.tup (.ptr d []) .unit), [(d, .box a)]⟩)
    | _, _ => .fail)
  | _, _ => .fail

/-- slices.Clone of a part of a row whose elements are shared: a new row of the same elements; the other row stays as it is -/
def cloneE (g : Look) (d E : Nat) (args : SV) : M Eff :=
  match args with
  | .tup (.sub c sz lo hi) .unit => (match g c, H.ty E with
    | some (.row t false n xs), some u => (match decide (t = u) && (size t == 1 && sz == 1) with
      | true => fresh g d (.ite (decide (((xs.take hi).drop lo).length ≤ lim)) (.ret ⟨.ref d, [(d, .row t false n ((xs.take hi).drop lo))]⟩) .fail)
      | false => .fail)
    | _, _ => .fail)
  | _ => .fail

def asField (x : SV) (u : Ty) : SV := match x, u with
  | .nilv, .sl w => .v (.sl w) (true, [])
  | x, _ => x

/-- a struct out of its zero value, part by part -/
def buildParts (t : Ty) (n : Nat) : List (Nat × SV) → SV → Option SV
  | [], a => some a
  | (i, x) :: l, a =>
    match fpath t n i with
    | some (q, u) =>
      (match decide ((asField x u).ag = some (isAgg u, size u)) with
      | true => (match SV.set a q (asField x u) with
        | some a' => buildParts t n l a'
        | none => none)
      | false => none)
    | none => none

def minmax (mx : Bool) (k : IntKind) : Int → List SV → Option SV
  | x, [] => some (.v (.int k) x)
  | x, .v (.int k') y :: r =>
    match decide (k = k') with
    | true => minmax mx k (match mx with
      | true => bif decide ((x : Int) < y) then y else x
      | false => bif decide ((y : Int) < x) then y else x) r
    | false => none
  | _, _ => none
end
end Go.Rf

namespace Go.Rf
section
variable (H : Hints)

def parts : List (Nat × Operand) → List SV → List (Nat × SV)
  | (i, _) :: l, a :: as => (i, a) :: parts l as
  | _, _ => []

/-- the parts of a slice written out, in order, none left out -/
def partsList : Nat → List (Nat × Operand) → List SV → Option (List SV)
  | _, [], [] => some []
  | n, (i, _) :: l, a :: as => match i == n with
    | true => (match partsList (n + 1) l as with
      | some r => some (a :: r)
      | none => none)
    | false => none
  | _, _, _ => none

def intOf : SV → Option Int
  | .v (.int _) n => some n
  | _ => none

def siteOf (l : List (Nat × Nat)) (d f : Nat) : Nat := match lookupN l d with
  | some k => k
  | none => f

def builtinE (b : Builtin) (ats : List Nat) (g : Look) (d : Nat) (frz : Bool) (args : List SV) : M Eff :=
  match b, args with
  | .len, [a] => (match ats with
    | [T] => (match H.ty T with
      | some (.sl _) => (match lenOf g a with
        | some n => .ret ⟨.v (.int .i64) n, []⟩
        | none => .fail)
      | none => mapLenE H g T a
      | _ => .fail)
    | _ => .fail)
  | .cap, [a] => (match ats with
    | [T] => (match H.ty T, a with
      | some (.sl _), .nilv => .ret ⟨.v (.int .i64) (0 : Int), []⟩
      | some (.sl _), .v (.sl _) x => .ite x.1 (.ret ⟨.v (.int .i64) (0 : Int), []⟩) .fail
      | _, _ => .fail)
    | _ => .fail)
  | .append, [a, b] => (match ats with
    | [T, U] => (match H.ty T, H.ty U with
      | some (.sl t), some (.int k) => (match b with
        | .v (.int _) _ => appendE g d frz t a b
        | _ => .fail)
      | some (.sl t), some (.sl _) => (match b, T == U with
        | .v (.int _) _, _ => .fail
        | b, true => appendE g d frz t a b
        | _, _ => .fail)
      | _, _ => .fail)
    | _ => .fail)
  | .max, .v (.int k) x :: r => (match minmax true k x r with
    | some a => .ret ⟨a, []⟩
    | none => .fail)
  | .min, .v (.int k) x :: r => (match minmax false k x r with
    | some a => .ret ⟨a, []⟩
    | none => .fail)
  | .clear, [a] => (match a, ats with
    | .sub c sz lo hi, [T] => (match g c, H.ty T with
      | some (.row t dp n xs), some (.sl u) => (match decide (t = u) && sz == size t && flat t with
        | true => .ret ⟨.unit, [(c, .row t dp n (xs.take lo ++ (List.replicate (hi - lo) (dflt t) ++ xs.drop hi)))]⟩
        | false => .fail)
      | _, _ => .fail)
    | _, _ => .fail)
  | .copy, [a, b] => (match a, view g b, ats with
    | .sub c sz lo hi, some (e, _), [T, _] => (match g c, H.ty T with
      | some (.row t dp n xs), some (.sl u) => (match e.to (.sl t), decide (t = u) && sz == size t && flat t with
        | some y, true => .ret ⟨.v (.int .i64) ((min y.2.length (hi - lo) : Nat) : Int), [(c, .row t dp n (xs.take lo ++ (y.2.take (hi - lo) ++ xs.drop (lo + min y.2.length (hi - lo)))))]⟩
        | _, _ => .fail)
      | _, _ => .fail)
    | .ref c, some (e, _), [T, _] => (match g c, H.ty T with
      | some (.row t dp n xs), some (.sl u) => (match e.to (.sl t), decide (t = u) && flat t with
        | some y, true => .ret ⟨.v (.int .i64) ((min y.2.length xs.length : Nat) : Int), [(c, .row t dp n (y.2.take xs.length ++ xs.drop (min y.2.length xs.length)))]⟩
        | _, _ => .fail)
      | _, _ => .fail)
    | _, _, _ => .fail)
  | _, _ => .fail

def eff1 (h : FnH) (p : Fns H) (o : Op) (T : Nat) (d : Nat) (g : Look) (args : List SV) : M Eff :=
  match o, args with
  | .move _, [a] => .ret ⟨typed H T a, []⟩
  | .assign _, [a] => .ret ⟨typed H T a, []⟩
  | .pick _ _ _, [c, a, b] => (match c with
    | .v .bool x => .ite x (.ret ⟨typed H T a, []⟩) (.ret ⟨typed H T b, []⟩)
    | _ => .fail)
  | .alloc E, [] => (match H.ty E with
    | some t => fresh g d (.ret ⟨.ptr d [], [(d, .box (.v t (dflt t)))]⟩)
    | none => (match H.cell E with
      | true => fresh g d (.ret ⟨.ptr d [], [(d, .box .dead)]⟩)
      | false => .fail))
  | .box E _, [a] => (match agOf H E, (typed H E a).ag with
    | some x, some y => (match decide (x = y) with
      | true => fresh g d (.ret ⟨.ptr d [], [(d, .box (typed H E a))]⟩)
      | false => .fail)
    | _, _ => .fail)
  | .build E ps, as => (match H.ty E with
    | some t => (match buildParts t (match H.nf E with
      | 0 => 2
      | n => n) (parts ps.toList as) (.v t (dflt t)) with
      | some x => (match isAgg t && decide (x.ag = some (true, size t)) with
        | true => .ret ⟨x, []⟩
        | false => .fail)
      | none => .fail)
    | none => .fail)
  | .buildSlice E n ps, as => (match H.ty E with
    | some (.sl t) => (match partsList 0 ps.toList as with
      | some l => (match n == l.length && decide (n * size t ≤ 16777216) with
        | true => buildSliceE g d (h.frz.contains d) t l
        | false => .fail)
      | none => .fail)
    | _ => .fail)
  | .load E _, [a] => (match agOf H E with
    | some ag => loadE g d ag a
    | none => .fail)
  | .store E _ _, [a, x] => (match agOf H E with
    | some ag => storeE g ag a (typed H E x)
    | none => .fail)
  | .nilCheck _, [a] => (match a with
    | .ptr c q => .ret ⟨.ptr c q, []⟩
    | .sp t x => .ret ⟨.sp t x, []⟩
    | .clo f c => .ret ⟨.clo f c, []⟩
    | _ => .fail)
  | .binOp op T _ _ _, [a, b] => binE H g op T a b
  | .unOp op _ _, [a] => unE op a
  | .convert U E _, [a] => (match a, H.ty E, H.ty U with
    | .v (.int _) n, some (.int k), some _ => .ret ⟨.v (.int k) (k.wrap n), []⟩
    | _, _, _ => .fail)
  | .makeMap T none, [] => (match mapTy H T with
    | some (k, v) => fresh g d (.ret ⟨.ref d, [(d, .map k v [])]⟩)
    | none => .fail)
  | .lookup T _ _ ok, [m, x] => lookupE H g T ok m x
  | .mapUpdate T _ _ _, [m, x, y] => updateE H g T m x y
  | .makeFunc fn first _, as => (match fn, first.toList with
    | .func f, [] => .ret ⟨.clo f (tupOf as), []⟩
    | _, _ => .fail)
  | .makeSlice E _ _, [l, c] => (match H.ty E, l, c with
    | some (.sl t), .v (.int .i64) n, .v (.int .i64) m =>
      .ite (decide (0 ≤ (n : Int))) (.ite (decide ((n : Int) ≤ (lim : Int))) (.ite (decide ((n : Int) ≤ (m : Int))) (.ite (decide ((m : Int) ≤ (lim : Int)))
        (fresh g d (.ret ⟨.ref d, [(d, .row t true false (List.replicate (Int.toNat n) (dflt t)))]⟩)) .fail) .fail) .fail) .fail
    | _, _, _ => .fail)
  | .slice T _ lo hi mx, as => (match H.ty T with
    | some (.sl u) => (match mx, lo, hi, as with
      | none, none, none, [x] => sliceE u g x none none
      | none, some _, none, [x, l] => (match intOf l with
        | some l => sliceE u g x (some l) none
        | none => .fail)
      | none, none, some _, [x, r] => (match intOf r with
        | some r => sliceE u g x none (some r)
        | none => .fail)
      | none, some _, some _, [x, l, r] => (match intOf l, intOf r with
        | some l, some r => sliceE u g x (some l) (some r)
        | _, _ => .fail)
      | _, _, _, _ => .fail)
    | _ => .fail)
  | .fieldAddr E _ i, [a] => (match H.ty E with
    | some t => (match fpath t (H.nf E) i with
      | some (q, u) => (match a with
        | .ptr c r => .ret ⟨.ptr c (r ++ q), []⟩
        | .sp w x => (match cast w t x with
          | some y => (match Den.get t y q with
            | some e => .ret ⟨.sp e.1 e.2, []⟩
            | none => .fail)
          | none => .fail)
        | _ => .fail)
      | none => .fail)
    | none => .fail)
  | .field E _ i, [a] => (match H.ty E with
    | some t => (match fpath t (H.nf E) i with
      | some (q, u) => (match a.get q with
        | some x => (match decide (x.ag = some (isAgg u, size u)) with
          | true => .ret ⟨x, []⟩
          | false => .fail)
        | none => .fail)
      | none => .fail)
    | none => .fail)
  | .indexAddr T _ _, [a, i] => (match H.ty T, intOf i with
    | some (.sl u), some n => indexE u g a n
    | some (.pair (.int .i64) (.int .i64)), some n => (match H.nf T, a with
      | 0, .ptr c r => .ite (n == 0) (.ret ⟨.ptr c (r ++ [.fst]), []⟩) (.ite (n == 1) (.ret ⟨.ptr c (r ++ [.snd 1]), []⟩) .fail)
      | _, _ => .fail)
    | _, _ => .fail)
  | .extract _ i, [a] => (match tupDrop i a with
    | .tup x _ => (match x.ag with
      | some _ => .ret ⟨x, []⟩
      | none => .ret ⟨.dead, []⟩)
    | _ => .fail)
  | .call c, as => (match c.callee with
    | .builtin b => builtinE H b c.argTypes.toList g d (h.frz.contains d) as
    | .value _ => (match as with
      | .clo f caps :: as => (match H.extF f with
        | some (.backward gf) => backE H g d gf (tupApp (tupOf as) caps)
        | some (.clone E) => cloneE H g d E (tupApp (tupOf as) caps)
        | some .add64 => extE .add64 (tupApp (tupOf as) caps)
        | none => callE H p g d (siteOf h.site d f) f (tupApp (tupOf as) caps))
      | .v (.fn f ct) x :: as => (match capSV ct x with
        | some caps => callE H p g d (siteOf h.site d f) f (tupApp (tupOf as) caps)
        | none => .fail)
      | _ => .fail)
    | _ => .fail)
  | _, _ => .fail

/-! ### one operation in a frame -/
def opnd (s : St) : Operand → SV
  | .tmp t => s.slot t
  | .const (.int k n) => (match decide (k.min ≤ n ∧ n ≤ k.max) with
    | true => .v (.int k) n
    | false => .dead)
  | .const (.bool b) => .v .bool b
  | .const (.slice none 0 0) => .nilv
  | .func f => .clo f .unit
  | _ => .dead

def SV.refs : SV → List Nat
  | .ref c => [c]
  | .sub c _ _ _ => [c]
  | .ptr c _ => [c]
  | .one a => a.refs
  | .pair a b => a.refs ++ b.refs
  | .tup a b => a.refs ++ b.refs
  | .clo _ a => a.refs
  | _ => []

def Rg.refs : Rg → List Nat
  | .box a => a.refs
  | .rowl _ _ _ _ _ d => [d]
  | _ => []

def reach (g : Look) : Nat → List Nat → List Nat
  | 0, l => l
  | n + 1, l => reach g n (l ++ l.flatMap fun c => match g c with
    | some r => r.refs
    | none => [])

def hasN : List Nat → Nat → Bool
  | [], _ => false
  | a :: l, n => bif a == n then true else hasN l n

def newOf (d : Option Nat) (c : Nat) : Bool := match d with
  | some d => c % 4096 == d
  | none => c == 4095

def St.put (s : St) (d : Option Nat) (a : SV) : St :=
  match d with
  | some d => { s with slot := fun i => bif i == d then a else s.slot i }
  | none => s

def updReg (g : Look) : List (Nat × Rg) → Look
  | [] => g
  | (k, r) :: l => fun c => bif c == k then some r else updReg g l c

structure Tr where
  touched : List Nat
  changed : List Nat

/-- the regions that an operation touches -/
def touches (s : St) (args : List SV) : List Nat := reach s.reg 3 (args.flatMap SV.refs)

def lookAt (s : St) (o : Oper) (T : List Nat) : Look := fun c => bif hasN T c || newOf o.dst c then s.reg c else none

def updOk (s : St) (o : Oper) (T : List Nat) : List (Nat × Rg) → Bool
  | [] => true
  | (c, _) :: l => (hasN T c || (newOf o.dst c && (match s.reg c with
    | none => true
    | some _ => false))) && updOk s o T l

/-- what an operation touches: to hand a value on, or to put captured places together, touches nothing; to read a variable touches that variable -/
def touchOf (o : Op) (s : St) (args : List SV) : List Nat := match o, args with
  | .move _, _ => []
  | .assign _, _ => []
  | .makeFunc _ _ _, _ => []
  | .fieldAddr _ _ _, _ => []
  | .load _ _, [.ptr c p] => (match s.reg c with
    | some (.box _) => [c]
    | _ => touches s [.ptr c p])
  | _, args => touches s args

def stepOp (h : FnH) (p : Fns H) (o : Oper) (s : St) : M (St × Tr) :=
  let args := o.op.operands.toList.map (opnd s)
  let T := touchOf o.op s args
  (eff1 H h p o.op o.type (match o.dst with
    | some d => d
    | none => 4095) (lookAt s o T) args).bind fun e =>
    match updOk s o T e.upd && (match o.dst with
      | some d => decide (d < h.f.ntmps) && decide (d < 4096)
      | none => true) with
    | true => .ret ({ s with reg := updReg s.reg e.upd }.put o.dst e.val, ⟨T, e.upd.map (·.1)⟩)
    | false => .fail

def dstOf (ops : Array Oper) (j : Nat) : Option Nat := match ops[j]? with
  | some o => o.dst
  | none => none

def runOp (h : FnH) (p : Fns H) (ops : Array Oper) (o : Oper) (s : St) : M (St × Tr) :=
  match o.guard with
  | none => stepOp H h p o s
  | some (j, want) =>
    match dstOf ops j with
    | some q =>
      (match s.slot q with
      | .v .bool b =>
        let go (b : Bool) : M (St × Tr) :=
          let s' := s.put (some q) (.v .bool b)
          match b == want with
          | true => stepOp H h p o s'
          | false => .ret (s'.put o.dst .unit, ⟨[], []⟩)
        .ite b (go true) (go false)
      | .unit => .ret (s.put o.dst .unit, ⟨[], []⟩)
      | _ => .fail)
    | none => .fail

def runOps (h : FnH) (p : Fns H) (ops : Array Oper) : List Oper → St → M (St × List Tr)
  | [], s => .ret (s, [])
  | o :: l, s => (runOp H h p ops o s).bind fun r => (runOps h p ops l r.1).bind fun q => .ret (q.1, r.2 :: q.2)

/-! ### regions whose order is drawn -/
def tmpsOf (ops : Array Oper) (o : Oper) : List Nat :=
  (o.op.operands.toList.filterMap fun x => match x with
    | .tmp t => some t
    | _ => none) ++ (match o.guard with
    | some (j, _) => (dstOf ops j).toList
    | none => [])

def apartOp (ops : Array Oper) (a b : Oper) : Bool :=
  (match b.dst with
  | some d => !hasN (tmpsOf ops a) d
  | none => true) &&
  (match a.dst with
  | some d => !hasN (tmpsOf ops b) d
  | none => true) &&
  (match a.dst, b.dst with
  | some d, some e => !(d == e)
  | _, _ => true)

def apartTr (a b : Tr) : Bool := (a.changed.all fun c => !hasN b.touched c && !hasN b.changed c) && b.changed.all fun c => !hasN a.touched c

/-- neither changes a region of the other's new ones -/
def apartNew (o u : Oper) (a b : Tr) : Bool := (b.changed.all fun c => !newOf o.dst c) && a.changed.all fun c => !newOf u.dst c

/-- every wait is for something further up -/
def edgesOk : Nat → List Oper → Bool
  | _, [] => true
  | i, o :: l => (o.after.toList.all fun e => !Region.binds .any e || Nat.blt e.on i) && edgesOk (i + 1) l

/-- i before j in the text: does j wait for i by an edge of its own, or by a chain (bit masks) -/
def waitsFor (ops : Array Oper) (i j : Nat) : Bool := (Region.before ops |>.getD j 0).testBit i

/-- operation number i against the later ones -/
def pairsOk (ops : Array Oper) (i : Nat) (o : Oper) (t : Tr) : Nat → List Oper → List Tr → Bool
  | j, u :: us, v :: vs => (waitsFor ops i j || (apartOp ops o u && apartTr t v && apartNew o u t v)) && pairsOk ops i o t (j + 1) us vs
  | _, _, _ => true

def allPairs (ops : Array Oper) : Nat → List Oper → List Tr → Bool
  | i, o :: os, t :: ts => pairsOk ops i o t (i + 1) os ts && allPairs ops (i + 1) os ts
  | _, _, _ => true

/-! ### lent places are put back -/
def settleL (g : Look) : List Nat → Look
  | [] => g
  | c :: l => match g c with
    | some r => (match settled g r with
      | some (r', k :: ks) => settleL (updReg g ((c, r') :: (k :: ks).map fun e => (e, Rg.gone))) l
      | _ => settleL g l)
    | none => settleL g l

def St.settle (s : St) (l : List SV) : St := { s with reg := settleL s.reg (reach s.reg 3 (l.flatMap SV.refs)) }

/-! ### code -/
def extF (g : Look) (slot : Nat → SV) : List (Nat × SS) → Acc → M (List D × Acc)
  | [], c => .ret ([], c)
  | (i, s) :: l, c => (ext g s (slot i) c).bind fun r => (extF g slot l r.2).bind fun q => .ret (r.1 ++ q.1, q.2)

structure RebF where
  slots : List (Nat × SV)
  rs : List (Nat × Rg)

def rebF : List (Nat × SS) → List D → Option RebF
  | [], [] => some ⟨[], []⟩
  | [], _ => none
  | (i, s) :: l, ds =>
    match reb s ds with
    | some r => (match rebF l r.rest with
      | some q => some ⟨(i, r.sv) :: q.slots, r.rs ++ q.rs⟩
      | none => none)
    | none => none

def slotsOf (l : List (Nat × SV)) (old : Nat → SV) : Nat → SV :=
  match l with
  | [] => old
  | (k, a) :: l => fun i => bif i == k then a else slotsOf l old i

def writes : Code → List Nat
  | .region _ ops _ => ops.toList.filterMap (·.dst)
  | .seq a b => writes a ++ writes b
  | .cond _ a b => writes a ++ writes b
  | .block _ a => writes a
  | .loop a => writes a
  | _ => []

def disjointB (a b : List Nat) : Bool := a.all fun c => !hasN b c

/-- a slot, or (past a million) a region by its number: a row, or (past two millions) a box -/
def St.at (s : St) (i : Nat) : SV :=
  bif Nat.ble 2000000 i then .ptr (i - 2000000) [] else bif Nat.ble 1000000 i then .ref (i - 1000000) else s.slot i

def Acc.to (c : Acc) (d : Nat → Nat) (k : Nat) : Nat := match c.mp.find? fun e => e.1 == k with
  | some e => e.2.1
  | none => d k

/-- the frame behind a piece of code that was run apart: what it was handed is used up or handed back, what it only saw stays -/
def behind (s : St) (keep : List Nat) (c : Acc) (fz : Bool) (r : RebF) : Option St :=
  let ren := c.to id
  let news := r.rs.map fun e => (ren e.1, e.2.ren ren)
  match nodupB (news.map (·.1)) && (r.rs.all fun e => match c.mp.find? fun m => m.1 == e.1 with
    | some m => m.2.2
    | none => (match s.reg e.1 with
      | none => true
      | some _ => false)) with
  | true => some
    { slot := slotsOf ((r.slots.filter fun e => Nat.blt e.1 1000000).map fun e => (e.1, e.2.ren ren)) (fun i => bif hasN keep i then s.slot i else .dead)
      reg := updReg s.reg (news ++ ((c.mp.filter fun m => !(news.any fun n => n.1 == m.2.1)).map fun e => (e.2.1, Rg.gone)) ++ (match fz with
        | true => frozen s.reg c.vw
        | false => [])) }
  | false => none

/-- what is handed back in its place is the very region -/
def placeOk (ids outs : List Nat) (c : Acc) : Bool := nodupB outs && (c.mp.all fun e => !(hasN ids e.1) || (e.1 == e.2.1 && e.2.2)) && outs.all fun k => !(hasN ids k) || c.mp.any fun e => e.1 == k

/-- what a region may be handed out as -/
def SS.isOB : SS → Bool
  | .any => true
  | .own _ _ _ => true
  | .box _ _ => true
  | .map _ _ _ => true
  | _ => false

def atOk (l : List (Nat × SS)) : Bool := l.all fun y => Nat.blt y.1 1000000 || y.2.isOB

def inject0 (ids : List Nat) : (es : List (Ex × List (Nat × SS))) → Ex → St → M (ExTy es)
  | [], _, _ => .fail
  | [e], x, s =>
    match decide (x = e.1) with
    | true => (extF s.reg s.at e.2 ⟨[], []⟩).bind fun r =>
      (match r.2.ok && placeOk ids (e.2.flatMap fun y => y.2.ids) r.2 && atOk e.2, pack (exTys e) r.1 with
      | true, some y => .ret y
      | _, _ => .fail)
    | false => .fail
  | e :: f :: es, x, s =>
    match decide (x = e.1) with
    | true => (extF s.reg s.at e.2 ⟨[], []⟩).bind fun r =>
      (match r.2.ok && placeOk ids (e.2.flatMap fun y => y.2.ids) r.2 && atOk e.2, pack (exTys e) r.1 with
      | true, some y => .ret (.inl y)
      | _, _ => .fail)
    | false => (inject0 ids (f :: es) x s).bind fun y => .ret (.inr y)

def inject (ids : List Nat) (es : List (Ex × List (Nat × SS))) (x : Ex) (s : St) : M (ExTy es) :=
  inject0 ids es x (s.settle (es.flatMap fun e => match decide (x = e.1) with
    | true => e.2.map fun y => s.at y.1
    | false => []))

def eject : (es : List (Ex × List (Nat × SS))) → ExTy es → M (Ex × Bool × RebF)
  | [], _ => .fail
  | [e], x => (match rebF e.2 (unpack (exTys e) x) with
    | some r => .ret (e.1, e.2.any (fun y => shared y.2), r)
    | none => .fail)
  | e :: f :: es, x => .cas _ _ x (fun y => match rebF e.2 (unpack (exTys e) y) with
    | some r => .ret (e.1, e.2.any (fun y => shared y.2), r)
    | none => .fail) (fun y => eject (f :: es) y)

def newFrame (r : RebF) : St := { slot := slotsOf r.slots fun _ => .dead, reg := updReg (fun _ => none) r.rs }

def isRange : Code → Bool
  | .rangeFunc _ _ _ _ => true
  | _ => false

/-- no range over a function -/
def noRange : Code → Bool
  | .seq a b => noRange a && noRange b
  | .cond _ a b => noRange a && noRange b
  | .block _ a => noRange a
  | .loop a => noRange a
  | .rangeFunc _ _ _ _ => false
  | _ => true

/-- how many elements the slice has that slot t's function value goes over -/
def rangeLen (s : St) (t : Nat) : Option Int := match s.slot t with
  | .clo gf (.tup (.ptr d []) .unit) => (match H.iter gf, s.reg d with
    | some _, some (.box a) => lenOf s.reg a
    | _, _ => none)
  | _ => none

/-- the element of number i -/
def elemAt (s : St) (t : Nat) (i : Int) : M SV := match s.slot t with
  | .clo gf (.tup (.ptr d []) .unit) => (match H.iter gf with
    | some E => (match s.reg d with
      | some (.box (.v (.sl u) x)) => (match decide (H.ty E = some u) with
        | true => .ite (decide (i < x.2.length)) (.ret (.v u (x.2.getD i.toNat (dflt u)))) .fail
        | false => .fail)
      | some (.box (.ref c)) => (match s.reg c with
        | some (.row u _ _ xs) => (match decide (H.ty E = some u) && flat u with
          | true => .ite (decide (i < xs.length)) (.ret (.v u (xs.getD i.toNat (dflt u)))) .fail
          | false => .fail)
        | _ => .fail)
      | _ => .fail)
    | none => .fail)
  | _ => .fail

/-- the slots with the counter laid in -/
def counted (q : Nat) (i : Int) (slot : Nat → SV) : Nat → SV := fun j => bif j == q then .v (.int .i64) i else slot j

/-- the code of a block, apart from what stands around it -/
def join (es : List (Ex × List (Nat × SS))) (r : Option (ExTy es)) (s : St) (keep : List Nat) (c : Acc) : M (Ex × St) :=
  .ask _ r fun y => (eject es y).bind fun z => match behind s keep c z.2.1 z.2.2 with
    | some s' => .ret (z.1, s')
    | none => .fail

def ev (key : Nat) (h : FnH) (p : Fns H) : Code → St → M (Ex × St)
  | .skip, s => .ret (.normal, s)
  | .ret, s => .ret (.ret, s)
  | .exit n, s => .ret (.exit n, s)
  | .seq a b, s => (ev key h p a s).bind fun r => match r.1 with
    | .normal => ev key h p b r.2
    | x => .ret (x, r.2)
  | .cond c a b, s => (match opnd s c with
    | .v .bool x => .ite x (ev key h p a s) (ev key h p b s)
    | _ => .fail)
  | .region _ ops draw, s => (runOps H h p ops ops.toList s).bind fun r =>
    match !draw || (edgesOk 0 ops.toList && allPairs ops 0 ops.toList r.2) with
    | true => .ret (.normal, r.1)
    | false => .fail
  | .block n (.loop c), s0 =>
    let l := loopOf H key n
    let s := s0.settle (l.head.map fun y => s0.slot y.1)
    (extF s.reg s.slot l.head ⟨[], []⟩).bind fun r =>
      (match r.2.ok && disjointB l.keep (writes c) && !isRange c, pack (hTys l) r.1 with
      | true, some x => (join l.exits (p.loop key n c x) s l.keep r.2).bind fun z =>
        (match z.1 with
        | .exit m => .ret (if m = n then .normal else .exit m, z.2)
        | x => .ret (x, z.2))
      | _, _ => .fail)
  | .block n (.rangeFunc (.tmp t) ps x c), s0 =>
    let l := loopOf H key n
    let s := s0.settle (l.head.map fun y => s0.slot y.1)
    (match rangeLen H s t, ps.toList with
    | some k, [q, _] => (extF s.reg (counted q (k - 1) s.slot) l.head ⟨[], []⟩).bind fun r =>
      (match r.2.ok, pack (hTys l) r.1 with
      | true, some y => (join l.exits (p.loop key n (.rangeFunc (.tmp t) ps x c) y) s l.keep r.2).bind fun z =>
        (match z.1 with
        | .exit m => .ret (if m = n then .normal else .exit m, z.2)
        | x => .ret (x, z.2))
      | _, _ => .fail)
    | _, _ => .fail)
  | .block n c, s => (ev key h p c s).bind fun z =>
    (match z.1 with
    | .exit m => .ret (if m = n then .normal else .exit m, z.2)
    | x => .ret (x, z.2))
  | _, _ => .fail

/-- what an exit hands back under the head's number is the very region, round for round -/
def backOk (l : LoopH) (c : Acc) : Bool := (l.head.flatMap fun e => e.2.ids).all fun k => !(l.exits.any fun e => e.2.any fun y => hasN y.2.ids k) || c.mp.any fun e => e.1 == k && (e.2.1 == k && e.2.2)

/-- a round of a loop -/
def roundOf (key : Nat) (h : FnH) (p : Fns H) (n : Nat) (c : Code) (r : RebF) : M (ExTy (loopOf H key n).exits) :=
  (ev H key h p c (newFrame r)).bind fun z => match z.1 with
    | .normal => (extF (z.2.settle ((loopOf H key n).head.map fun y => z.2.slot y.1)).reg z.2.slot (loopOf H key n).head ⟨[], []⟩).bind fun q =>
      (match q.2.ok && backOk (loopOf H key n) q.2, pack (hTys (loopOf H key n)) q.1 with
      | true, some y => .ask _ (p.loop key n c y) .ret
      | _, _ => .fail)
    | e => inject ((loopOf H key n).head.flatMap fun e => e.2.ids) (loopOf H key n).exits e z.2

/-- code that ends where it ends -/
def calm : Code → Bool
  | .region _ _ _ => true
  | .seq a b => calm a && calm b
  | .skip => true
  | _ => false

/-- a round of a range over a function, its counter in slot q: what the round writes beside memory is lost -/
def roundR (key : Nat) (h : FnH) (p : Fns H) (n t : Nat) (ps : Array Tmp) (q q2 : Nat) (a c : Code) (r : RebF) : M (ExTy (loopOf H key n).exits) :=
  match (newFrame r).slot q with
  | .v (.int .i64) i =>
    .ite (decide ((i : Int) < 0)) (inject ((loopOf H key n).head.flatMap fun e => e.2.ids) (loopOf H key n).exits .normal (newFrame r))
      ((elemAt H (newFrame r) t i).bind fun e => (ev H key h p (.seq a c) ((newFrame r).put (some q2) e)).bind fun z => match z.1 with
        | .normal => (extF (z.2.settle ((loopOf H key n).head.map fun y => z.2.slot y.1)).reg (counted q ((i : Int) - 1) z.2.slot) (loopOf H key n).head ⟨[], []⟩).bind fun o =>
          (match o.2.ok && backOk (loopOf H key n) o.2, pack (hTys (loopOf H key n)) o.1 with
          | true, some y => .ask _ (p.loop key n (.rangeFunc (.tmp t) ps a c) y) .ret
          | _, _ => .fail)
        | e => inject ((loopOf H key n).head.flatMap fun e => e.2.ids) (loopOf H key n).exits e z.2)
  | _ => .fail

/-- what a range's round may not touch: slots at its exits; the head's slots, save the counter -/
def rangeOk (l : LoopH) (nt q q2 : Nat) (a c : Code) : Bool :=
  decide (q < nt) && decide (q2 < nt) &&
  (l.exits.all fun e => e.2.all fun y => Nat.ble 1000000 y.1) && (l.head.all fun y => y.1 == q || (!(y.1 == q2) && !hasN (writes (.seq a c)) y.1)) && !(q == q2) && calm a && noRange c

/-- a round of a loop, or of a range over a function -/
def roundAny (key : Nat) (h : FnH) (p : Fns H) (n : Nat) (c : Code) (r : RebF) : M (ExTy (loopOf H key n).exits) :=
  match c with
  | .rangeFunc (.tmp t) ps a d => (match ps.toList with
    | [q, q2] => (match rangeOk (loopOf H key n) h.f.ntmps q q2 a d with
      | true => roundR H key h p n t ps q q2 a d r
      | false => .fail)
    | _ => .fail)
  | .rangeFunc _ _ _ _ => .fail
  | c => roundOf H key h p n c r

/-- a round of a loop, and what comes of it -/
def evLoop (key : Nat) (h : FnH) (p : Fns H) (n : Nat) (c : Code) (x : Den (tyOf (hTys (loopOf H key n)))) : Option (ExTy (loopOf H key n).exits) :=
  match rebF (loopOf H key n).head (unpack (hTys (loopOf H key n)) x), nodupB ((loopOf H key n).head.flatMap fun e => e.2.ids) with
  | some r, true => M.run (roundAny H key h p n c r)
  | _, _ => none

def argSlots : Nat → SV → List (Nat × SV)
  | i, .tup a b => (i, a) :: argSlots (i + 1) b
  | _, _ => []

/-- the results as they lie in the frame -/
def resultSVs (s : St) : List ResultVar → Option SV
  | [] => some .unit
  | .tmp t :: l => (match resultSVs s l with
    | some r => some (.tup (s.slot t) r)
    | none => none)
  | .cell t T :: l =>
    (match s.slot t, resultSVs s l with
    | .ptr c q, some r => (match s.reg c with
      | some (.box b) => (match b.get q with
        | some x => (match decide (x.ag = agOf H T) && decide (x.ag ≠ none) with
          | true => some (.tup x r)
          | false => none)
        | none => none)
      | _ => none)
    | _, _ => none)

/-- a chain of values none of which is a chain -/
def flatC : SS → Bool
  | .unit => true
  | .tup s s' => !s.isChain && flatC s'
  | _ => false

def chainLen : SV → Nat
  | .tup _ b => chainLen b + 1
  | _ => 0

/-- a function that is known by its contract -/
def natFun (h : FnH) (f : Den (tyOf h.pars.tys) → Option (Den (tyOf h.outs.tys))) (key : Nat) (x : Den (tyOf (aTys H key))) : Option (Den (tyOf (rTys H key))) :=
  match pack h.pars.tys (unpack (aTys H key) x) with
  | some a => (match f a with
    | some b => pack (rTys H key) (unpack h.outs.tys b)
    | none => none)
  | none => none

def evFun (p : Fns H) (key : Nat) (x : Den (tyOf (aTys H key))) : Option (Den (tyOf (rTys H key))) :=
  match H.key key with
  | none => none
  | some h =>
    match h.nat with
    | some f => natFun H h f key x
    | none =>
    match h.f.body, reb h.pars (unpack (aTys H key) x), nodupB h.pars.ids && (flatC h.pars && (flatC h.outs && h.bk.length == chainLen (backSVs h.pars))) with
    | some c, some r, true =>
      M.run ((ev H key h p c { slot := slotsOf (argSlots 0 r.sv) fun _ => .dead, reg := updReg (fun _ => none) r.rs }).bind fun z =>
        let fin : M (Den (tyOf (rTys H key))) :=
          match resultSVs H z.2 h.f.results.toList with
          | some rs => (ext (z.2.settle [tupApp (backSVs h.pars) rs]).reg h.outs (tupApp (backSVs h.pars) rs) ⟨[], []⟩).bind fun q =>
            (match q.2.ok && placeOk h.pars.ids h.outs.ids q.2, pack (rTys H key) q.1 with
            | true, some y => .ret y
            | _, _ => .fail)
          | none => .fail
        match z.1 with
        | .normal => fin
        | .ret => fin
        | _ => .fail)
    | _, _, _ => none

def lev : Nat → Fns H
  | 0 => ⟨fun _ _ => none, fun _ _ _ _ => none⟩
  | k + 1 => ⟨evFun H (lev k), fun key n c x => match H.key key with
    | some h => evLoop H key h (lev k) n c x
    | none => none⟩
end

/-! ### words for the printed equations -/
def bAnd (k : IntKind) (x y : Int) : Int := k.wrap ((BitVec.ofInt k.bits x &&& BitVec.ofInt k.bits y).toNat : Int)
def bOr (k : IntKind) (x y : Int) : Int := k.wrap ((BitVec.ofInt k.bits x ||| BitVec.ofInt k.bits y).toNat : Int)
def bXor (k : IntKind) (x y : Int) : Int := k.wrap ((BitVec.ofInt k.bits x ^^^ BitVec.ofInt k.bits y).toNat : Int)
def bAndNot (k : IntKind) (x y : Int) : Int := k.wrap ((BitVec.ofInt k.bits x &&& ~~~(BitVec.ofInt k.bits y)).toNat : Int)
def bShl (k : IntKind) (x y : Int) : Int := k.wrap (x * 2 ^ (min y.toNat k.bits))
def bShr (k : IntKind) (x y : Int) : Int := Int.fdiv x (2 ^ (min y.toNat k.bits))
def findLoop : Code → Nat → Code
  | .seq a b, n => (match findLoop a n with
    | .skip => findLoop b n
    | c => c)
  | .cond _ a b, n => (match findLoop a n with
    | .skip => findLoop b n
    | c => c)
  | .block m (.loop c), n => bif m == n then c else findLoop c n
  | .block m (.rangeFunc g ps a c), n => bif m == n then .rangeFunc g ps a c else findLoop c n
  | .block _ c, n => findLoop c n
  | _, _ => .skip
def loopCode (f : Func) (n : Nat) : Code := match f.body with
  | some c => findLoop c n
  | none => .skip
end Go.Rf

namespace Go.Rf

def big : Nat := 9223372036854775807

/-- the cells cs lie in block b from o on -/
def rd (w : World) (b o : Nat) (cs : List Value) : Prop := ∀ j v, cs[j]? = some v → w.cell? ⟨b, o + j, none⟩ = some v

/-- a row of a block of its own: E tells what an element is, over a footprint and its cells -/
def RowB {α : Type} (w : World) (E : α → (Nat → Prop) → List Value → Prop) (sz : Nat) (n : Bool) (xs : List α) (F : Nat → Prop) (v : Value) : Prop :=
  (n = true ∧ xs = [] ∧ v = .slice none 0 0) ∨
  (n = false ∧ ∃ (b o cap : Nat) (arr : Array Value) (T : Nat) (G : Nat → Nat → Prop), v = .slice (some ⟨b, o, none⟩) xs.length cap ∧ xs.length ≤ cap ∧ xs.length ≤ big ∧
    w.heap[b]? = some (.cells arr T (0, 0)) ∧ o + cap * sz ≤ arr.size ∧ F b ∧ (∀ i b', G i b' → F b' ∧ b' ≠ b) ∧ (∀ i j b', G i b' → G j b' → i = j) ∧
    ∀ i e, xs[i]? = some e → ∃ c, c.length = sz ∧ rd w b (o + i * sz) c ∧ E e (G i) c)

/-- shared data: every block that is read is one of S. The mark: a list of captured variables' addresses -/
def Rep (w : World) (S : Nat → Prop) : Bool → (t : Ty) → Den t → List Value → Prop
  | false, .int k, n, cs => cs = [.int k n] ∧ k.min ≤ n ∧ n ≤ k.max
  | false, .bool, b, cs => cs = [.bool b]
  | false, .nil, _, cs => cs = []
  | false, .one a, x, cs => Rep w S false a x cs
  | false, .pair a b, x, cs => ∃ c d, cs = c ++ d ∧ Rep w S false a x.1 c ∧ Rep w S false b x.2 d
  | false, .sl t, x, cs => (x.1 = true ∧ x.2 = [] ∧ cs = [.slice none 0 0]) ∨
      (x.1 = false ∧ ∃ b o cap, cs = [.slice (some ⟨b, o, none⟩) x.2.length cap] ∧ x.2.length ≤ cap ∧ x.2.length ≤ big ∧
        ∀ i e, x.2[i]? = some e → S b ∧ ∃ c, c.length = size t ∧ rd w b (o + i * size t) c ∧ Rep w S false t e c) ∨
      (x.1 = false ∧ x.2 = [] ∧ ∃ A, cs = [.slice (some A) 0 0])
  | false, .hsl t, x, cs => (x.1 = true ∧ x.2 = [] ∧ cs = [.slice none 0 0]) ∨
      (x.1 = false ∧ ∃ b o cap, cs = [.slice (some ⟨b, o, none⟩) x.2.length cap] ∧ x.2.length ≤ cap ∧ x.2.length ≤ big ∧
        ∀ i e, x.2[i]? = some (some e) → S b ∧ ∃ c, c.length = size t ∧ rd w b (o + i * size t) c ∧ Rep w S false t e c)
  | false, .fn f cap, x, cs => ∃ ps, cs = [.func (.func f) #[] ps.toArray] ∧ Rep w S true cap x ps
  | true, .nil, _, ps => ps = []
  | true, .pair a r, x, ps => ∃ b o c rest, ps = .pointer (some ⟨b, o, none⟩) :: rest ∧ S b ∧ rd w b o c ∧ Rep w S false a x.1 c ∧ Rep w S true r x.2 rest
  | true, .int _, _, _ => False
  | true, .bool, _, _ => False
  | true, .one _, _, _ => False
  | true, .sl _, _, _ => False
  | true, .hsl _, _, _ => False
  | true, .fn _ _, _, _ => False

/-- data owned through and through, over the footprint F -/
def DRep (w : World) : (t : Ty) → Den t → (Nat → Prop) → List Value → Prop
  | .int k, n, _, cs => cs = [.int k n] ∧ k.min ≤ n ∧ n ≤ k.max
  | .bool, b, _, cs => cs = [.bool b]
  | .nil, _, _, cs => cs = []
  | .one a, x, F, cs => DRep w a x F cs
  | .pair a b, x, F, cs => ∃ c d F1 F2, cs = c ++ d ∧ (∀ b, F1 b → F b) ∧ (∀ b, F2 b → F b) ∧ (∀ b, F1 b → F2 b → False) ∧ DRep w a x.1 F1 c ∧ DRep w b x.2 F2 d
  | .sl t, x, F, cs => ∃ v, cs = [v] ∧ RowB w (DRep w t) (size t) x.1 x.2 F v
  | .fn _ _, _, _, _ => False
  | .hsl _, _, _, _ => False

def ERep (w : World) (S : Nat → Prop) (dp : Bool) (t : Ty) (x : Den t) (F : Nat → Prop) (c : List Value) : Prop :=
  match dp with
  | true => DRep w t x F c
  | false => Rep w S false t x c

/-! ### cells and lengths -/
theorem Rep_length {w : World} {S : Nat → Prop} : ∀ (t : Ty) (x : Den t) (cs : List Value), Rep w S false t x cs → cs.length = size t := by
  intro t
  induction t with
  | int k => intro x cs h; simp only [Rep] at h; simp [h.1, size]
  | bool => intro x cs h; simp only [Rep] at h; simp [h, size]
  | nil => intro x cs h; simp only [Rep] at h; simp [h, size]
  | one a ih => intro x cs h; exact ih x cs h
  | pair a b iha ihb =>
    intro x cs h
    simp only [Rep] at h
    obtain ⟨c, d, rfl, h1, h2⟩ := h
    simp [size, iha _ _ h1, ihb _ _ h2]
  | sl t ih =>
    intro x cs h
    simp only [Rep] at h
    rcases h with ⟨_, _, rfl⟩ | ⟨_, b, o, cap, rfl, _⟩ | ⟨_, _, A, rfl⟩ <;> rfl
  | fn f c ih =>
    intro x cs h
    simp only [Rep] at h
    obtain ⟨ps, rfl, _⟩ := h
    rfl
  | hsl t ih =>
    intro x cs h
    simp only [Rep] at h
    rcases h with ⟨_, _, rfl⟩ | ⟨_, b, o, cap, rfl, _⟩ <;> rfl

theorem DRep_length {w : World} : ∀ (t : Ty) (x : Den t) (F : Nat → Prop) (cs : List Value), DRep w t x F cs → cs.length = size t := by
  intro t
  induction t with
  | int k => intro x F cs h; simp only [DRep] at h; simp [h.1, size]
  | bool => intro x F cs h; simp only [DRep] at h; simp [h, size]
  | nil => intro x F cs h; simp only [DRep] at h; simp [h, size]
  | one a ih => intro x F cs h; exact ih x F cs h
  | pair a b iha ihb =>
    intro x F cs h
    simp only [DRep] at h
    obtain ⟨c, d, F1, F2, rfl, _, _, _, h1, h2⟩ := h
    simp [size, iha _ _ _ h1, ihb _ _ _ h2]
  | sl t ih =>
    intro x F cs h
    simp only [DRep] at h
    obtain ⟨v, rfl, _⟩ := h
    rfl
  | fn f c ih => intro x F cs h; simp only [DRep] at h
  | hsl t ih => intro x F cs h; simp only [DRep] at h

/-! ### memory that changes elsewhere -/
def KeepsC (S : Nat → Prop) (w w' : World) : Prop := ∀ b o v, S b → w.cell? ⟨b, o, none⟩ = some v → w'.cell? ⟨b, o, none⟩ = some v

theorem rd_keep {w w' : World} {S : Nat → Prop} (hk : KeepsC S w w') {b o : Nat} {cs : List Value} (hb : S b) (h : rd w b o cs) : rd w' b o cs := fun j v hj => hk _ _ _ hb (h j v hj)

theorem Rep_mono {w w' : World} {S S' : Nat → Prop} (hk : KeepsC S w w') (hs : ∀ b, S b → S' b) :
    ∀ (t : Ty) (m : Bool) (x : Den t) (cs : List Value), Rep w S m t x cs → Rep w' S' m t x cs := by
  intro t
  induction t with
  | int k => intro m x cs h; cases m <;> simpa only [Rep] using h
  | bool => intro m x cs h; cases m <;> simpa only [Rep] using h
  | nil => intro m x cs h; cases m <;> simpa only [Rep] using h
  | one a ih => intro m x cs h; cases m <;> simp only [Rep] at h ⊢; exact ih _ _ _ h
  | pair a b iha ihb =>
    intro m x cs h
    cases m
    · simp only [Rep] at h ⊢
      obtain ⟨c, d, e, h1, h2⟩ := h
      exact ⟨c, d, e, iha _ _ _ h1, ihb _ _ _ h2⟩
    · simp only [Rep] at h ⊢
      obtain ⟨b', o, c, r, e, hb, hr, h1, h2⟩ := h
      exact ⟨b', o, c, r, e, hs _ hb, rd_keep hk hb hr, iha _ _ _ h1, ihb _ _ _ h2⟩
  | sl t ih =>
    intro m x cs h
    cases m
    · simp only [Rep] at h ⊢
      rcases h with h | ⟨h0, b, o, cap, h1, h2, h3, h4⟩ | h
      · exact .inl h
      · refine .inr (.inl ⟨h0, b, o, cap, h1, h2, h3, fun i e he => ?_⟩)
        obtain ⟨hb, c, hl, hr, hc⟩ := h4 i e he
        exact ⟨hs _ hb, c, hl, rd_keep hk hb hr, ih _ _ _ hc⟩
      · exact .inr (.inr h)
    · simpa only [Rep] using h
  | fn f c ih =>
    intro m x cs h
    cases m
    · simp only [Rep] at h ⊢
      obtain ⟨ps, e, h1⟩ := h
      exact ⟨ps, e, ih _ _ _ h1⟩
    · simpa only [Rep] using h
  | hsl t ih =>
    intro m x cs h
    cases m
    · simp only [Rep] at h ⊢
      rcases h with h | ⟨h0, b, o, cap, h1, h2, h3, h4⟩
      · exact .inl h
      · refine .inr ⟨h0, b, o, cap, h1, h2, h3, fun i e he => ?_⟩
        obtain ⟨hb, c, hl, hr, hc⟩ := h4 i e he
        exact ⟨hs _ hb, c, hl, rd_keep hk hb hr, ih _ _ _ hc⟩
    · simpa only [Rep] using h

theorem cell_heap {w w' : World} {b : Nat} (h : w'.heap[b]? = w.heap[b]?) (o : Nat) : w'.cell? ⟨b, o, none⟩ = w.cell? ⟨b, o, none⟩ := by
  simp [World.cell?, h]

theorem rd_heap {w w' : World} {b o : Nat} {cs : List Value} (hb : w'.heap[b]? = w.heap[b]?) (h : rd w b o cs) : rd w' b o cs := fun j v hj => by
  rw [cell_heap hb]; exact h j v hj

theorem RowB_mono {α : Type} {w w' : World} {E E' : α → (Nat → Prop) → List Value → Prop} {sz : Nat} {n : Bool} {xs : List α} {F F' : Nat → Prop} {v : Value}
    (hF : ∀ b, F b → F' b) (hw : ∀ b, F b → w'.heap[b]? = w.heap[b]?) (hE : ∀ e G c, (∀ b, G b → F b) → E e G c → E' e G c) (h : RowB w E sz n xs F v) : RowB w' E' sz n xs F' v := by
  rcases h with h | ⟨h0, b, o, cap, arr, T, G, h1, h2, h3, h4, h5, h6, h7, h8, h9⟩
  · exact .inl h
  · refine .inr ⟨h0, b, o, cap, arr, T, G, h1, h2, h3, by rw [hw b h6]; exact h4, h5, hF _ h6, fun i b' hg => ⟨hF _ (h7 i b' hg).1, (h7 i b' hg).2⟩, h8, fun i e he => ?_⟩
    obtain ⟨c, hl, hr, hc⟩ := h9 i e he
    exact ⟨c, hl, rd_heap (hw b h6) hr, hE _ _ _ (fun b' hg => (h7 i b' hg).1) hc⟩

theorem DRep_mono {w w' : World} : ∀ (t : Ty) (x : Den t) (F F' : Nat → Prop) (cs : List Value), (∀ b, F b → F' b) → (∀ b, F b → w'.heap[b]? = w.heap[b]?) → DRep w t x F cs → DRep w' t x F' cs := by
  intro t
  induction t with
  | int k => intro x F F' cs _ _ h; simpa only [DRep] using h
  | bool => intro x F F' cs _ _ h; simpa only [DRep] using h
  | nil => intro x F F' cs _ _ h; simpa only [DRep] using h
  | one a ih => intro x F F' cs h1 h2 h; exact ih x F F' cs h1 h2 h
  | pair a b iha ihb =>
    intro x F F' cs h1 h2 h
    simp only [DRep] at h ⊢
    obtain ⟨c, d, F1, F2, e, g1, g2, g3, g4, g5⟩ := h
    exact ⟨c, d, F1, F2, e, fun b hb => h1 _ (g1 b hb), fun b hb => h1 _ (g2 b hb), g3, iha _ _ _ _ (fun _ h => h) (fun b hb => h2 b (g1 b hb)) g4, ihb _ _ _ _ (fun _ h => h) (fun b hb => h2 b (g2 b hb)) g5⟩
  | sl t ih =>
    intro x F F' cs h1 h2 h
    simp only [DRep] at h ⊢
    obtain ⟨v, e, hr⟩ := h
    exact ⟨v, e, RowB_mono h1 h2 (fun e G c hG hc => ih e G G c (fun _ h => h) (fun b hb => h2 b (hG b hb)) hc) hr⟩
  | fn f c ih => intro x F F' cs _ _ h; simp only [DRep] at h
  | hsl t ih => intro x F F' cs _ _ h; simp only [DRep] at h

theorem rd_cells {w : World} {b o : Nat} {cs : List Value} (h : rd w b o cs) {j : Nat} (hj : j < cs.length) : ∃ v, cs[j]? = some v ∧ w.cell? ⟨b, o + j, none⟩ = some v :=
  ⟨cs[j], by simp [hj], h j _ (by simp [hj])⟩

theorem block_of_cell {w : World} {b o : Nat} {v : Value} (h : w.cell? ⟨b, o, none⟩ = some v) : b < w.heap.size := World.block_lt_of_cell? w ⟨b, o, none⟩ h

/-- what is owned may be read as shared -/
theorem DRep_Rep {w : World} {S : Nat → Prop} : ∀ (t : Ty) (x : Den t) (F : Nat → Prop) (cs : List Value), (∀ b, F b → S b) → DRep w t x F cs → Rep w S false t x cs := by
  intro t
  induction t with
  | int k => intro x F cs _ h; simpa only [DRep, Rep] using h
  | bool => intro x F cs _ h; simpa only [DRep, Rep] using h
  | nil => intro x F cs _ h; simpa only [DRep, Rep] using h
  | one a ih => intro x F cs h1 h; exact ih x F cs h1 h
  | pair a b iha ihb =>
    intro x F cs h1 h
    simp only [DRep, Rep] at h ⊢
    obtain ⟨c, d, F1, F2, e, g1, g2, g3, g4, g5⟩ := h
    exact ⟨c, d, e, iha _ _ _ (fun b hb => h1 _ (g1 b hb)) g4, ihb _ _ _ (fun b hb => h1 _ (g2 b hb)) g5⟩
  | sl t ih =>
    intro x F cs h1 h
    simp only [DRep, Rep] at h ⊢
    obtain ⟨v, rfl, hr⟩ := h
    rcases hr with ⟨h2, h3, h4⟩ | ⟨h0, b, o, cap, arr, T, G, h2, h3, h4, h5, h6, h7, h8, h9, h10⟩
    · exact .inl ⟨h2, h3, by rw [h4]⟩
    · refine .inr (.inl ⟨h0, b, o, cap, by rw [h2], h3, h4, fun i e he => ?_⟩)
      obtain ⟨c, hl, hr, hc⟩ := h10 i e he
      exact ⟨h1 _ h7, c, hl, hr, ih _ _ _ (fun b' hg => h1 _ (h8 i b' hg).1) hc⟩
  | fn f c ih => intro x F cs _ h; simp only [DRep] at h
  | hsl t ih => intro x F cs _ h; simp only [DRep] at h

/-- flat data needs no memory -/
theorem Rep_flat {w w' : World} {S S' : Nat → Prop} : ∀ (t : Ty) (x : Den t) (cs : List Value), flat t = true → Rep w S false t x cs → Rep w' S' false t x cs := by
  intro t
  induction t with
  | int k => intro x cs _ h; simpa only [Rep] using h
  | bool => intro x cs _ h; simpa only [Rep] using h
  | nil => intro x cs _ h; simpa only [Rep] using h
  | one a ih => intro x cs h1 h; exact ih x cs h1 h
  | pair a b iha ihb =>
    intro x cs h1 h
    simp only [flat, Bool.and_eq_true] at h1
    simp only [Rep] at h ⊢
    obtain ⟨c, d, e, h2, h3⟩ := h
    exact ⟨c, d, e, iha _ _ h1.1 h2, ihb _ _ h1.2 h3⟩
  | sl t ih => intro x cs h; simp [flat] at h
  | fn f c ih => intro x cs h; simp [flat] at h
  | hsl t ih => intro x cs h; simp [flat] at h

theorem Rep_flat_D {w w' : World} {S F : Nat → Prop} : ∀ (t : Ty) (x : Den t) (cs : List Value), flat t = true → Rep w S false t x cs → DRep w' t x F cs := by
  intro t
  induction t generalizing F with
  | int k => intro x cs _ h; simpa only [Rep, DRep] using h
  | bool => intro x cs _ h; simpa only [Rep, DRep] using h
  | nil => intro x cs _ h; simpa only [Rep, DRep] using h
  | one a ih => intro x cs h1 h; exact ih x cs h1 h
  | pair a b iha ihb =>
    intro x cs h1 h
    simp only [flat, Bool.and_eq_true] at h1
    simp only [Rep, DRep] at h ⊢
    obtain ⟨c, d, e, h2, h3⟩ := h
    exact ⟨c, d, fun _ => False, fun _ => False, e, fun _ h => h.elim, fun _ h => h.elim, fun _ h => h.elim, iha _ _ h1.1 h2, ihb _ _ h1.2 h3⟩
  | sl t ih => intro x cs h; simp [flat] at h
  | fn f c ih => intro x cs h; simp [flat] at h
  | hsl t ih => intro x cs h; simp [flat] at h

theorem DRep_flat {w w' : World} {F F' : Nat → Prop} (t : Ty) (x : Den t) (cs : List Value) (hf : flat t = true) (h : DRep w t x F cs) : DRep w' t x F' cs :=
  Rep_flat_D (w := w) (S := fun _ => True) t x cs hf (DRep_Rep t x F cs (fun _ _ => trivial) h)

theorem ERep_length {w : World} {S : Nat → Prop} {dp : Bool} {t : Ty} {x : Den t} {F : Nat → Prop} {c : List Value} (h : ERep w S dp t x F c) : c.length = size t := by
  cases dp
  · exact Rep_length t x c h
  · exact DRep_length t x F c h
end Go.Rf

namespace Go.Rf

def adr (v : Value) (n : Nat) : Value :=
  match v with
  | .pointer (some a) => .pointer (some ⟨a.block, a.off + n, none⟩)
  | .slice (some a) _ _ => .pointer (some ⟨a.block, a.off + n, none⟩)
  | _ => .pointer none

/-- it is an address of a block -/
def based : Value → Prop
  | .pointer (some a) => a.spot = none
  | .slice (some a) _ _ => a.spot = none
  | _ => False

def SubV (hv : Value) (sz lo hi : Nat) (v : Value) : Prop :=
  (hv = .slice none 0 0 ∧ v = .slice none 0 0 ∧ lo = 0 ∧ hi = 0) ∨
  (∃ b o n cap o', hv = .slice (some ⟨b, o, none⟩) n cap ∧ v = .slice (some ⟨b, o', none⟩) (hi - lo) (cap - lo) ∧ lo ≤ hi ∧ hi ≤ n ∧ n ≤ cap ∧ n ≤ big ∧
    (lo < cap → o' = o + lo * sz) ∧ o' + (cap - lo) * sz ≤ o + cap * sz)

def Rg.len : Rg → Option Nat
  | .row _ _ _ xs => some xs.length
  | .rowl _ _ xs _ _ _ => some xs.length
  | .fz (.sl _) x => some x.2.length
  | _ => none

def glen (g : Look) (c : Nat) : Option Nat := match g c with
  | some r => r.len
  | none => none

def PtrIn (g : Look) (c : Nat) (p : List Step) : Prop := match p with
  | .el i _ :: _ => ∀ n, glen g c = some n → i < n
  | _ => True

def SV.isSt : SV → Bool
  | .v t _ => isAgg t
  | .one _ => true
  | .pair _ _ => true
  | _ => false

/-- nothing is said of its cells -/
def SV.isDead : SV → Bool
  | .dead => true
  | .unit => true
  | .tup _ _ => true
  | _ => false

/-- a value of one or of many cells -/
def V0 (R : List Value → Prop) (a : SV) (p : Value) : Prop :=
  a.isDead = true ∨ (a.isSt = true ∧ ∃ cs : List Value, p = .agg cs.toArray ∧ R cs) ∨ (a.isSt = false ∧ R [p])

/-- cells, as one value -/
def Pk (ag : Bool) (cs : List Value) (v : Value) : Prop := (ag = true ∧ v = .agg cs.toArray) ∨ (ag = false ∧ cs = [v])

/-- an entry of a map -/
def MEnt (w : World) (S : Nat → Prop) (k v : Ty) (m : MapEntry) (e : Den (.pair k v)) : Prop :=
  (∃ cs, Pk (isAgg k) cs m.key ∧ Rep w S false k e.1 cs) ∧ ∃ cs, Pk (isAgg v) cs m.val ∧ Rep w S false v e.2 cs

section
variable (w : World) (S : Nat → Prop) (hv : Nat → Value) (g : Look)

/-- a value's cells; the mark: a list of values -/
def CRep : Bool → SV → List Value → Prop
  | false, .v t x, cs => Rep w S false t x cs
  | false, .ref c, cs => g c ≠ none ∧ (hv c).oneCell' = true ∧ cs = [hv c]
  | false, .sub c sz lo hi, cs => g c ≠ none ∧ ∃ v, cs = [v] ∧ SubV (hv c) sz lo hi v
  | false, .ptr c p, cs => g c ≠ none ∧ cs = [adr (hv c) (pathOff p)] ∧ based (hv c) ∧ PtrIn g c p
  | false, .sp t x, cs => ∃ b o c, cs = [.pointer (some ⟨b, o, none⟩)] ∧ S b ∧ rd w b o c ∧ Rep w S false t x c
  | false, .one a, cs => CRep false a cs
  | false, .pair a b, cs => ∃ c d, cs = c ++ d ∧ CRep false a c ∧ CRep false b d
  | false, .clo f caps, cs => ∃ ps, cs = [.func (.func f) #[] ps.toArray] ∧ CRep true caps ps
  | false, .nilv, cs => cs = [.slice none 0 0]
  | false, .dead, cs => ∃ v, cs = [v] ∧ v.oneCell' = true
  | true, .unit, ps => ps = []
  | true, .tup a b, ps => ∃ p r, ps = p :: r ∧ V0 (CRep false a) a p ∧ CRep true b r
  | _, _, _ => False

def VR (a : SV) (v : Value) : Prop :=
  match a with
  | .dead => True
  | .unit => v = .tuple #[]
  | .tup x y => ∃ vs : List Value, v = .tuple vs.toArray ∧ CRep w S hv g true (.tup x y) vs
  | a => V0 (CRep w S hv g false a) a v

/-- the cells of an element one of whose places holds a value of its own -/
def Lent (w : World) : (t : Ty) → Den t → List Step → (Nat → Prop) → List Value → Value → Prop
  | .sl _, _, [], _, c, v => c = [v]
  | .one a, x, .one :: q, F, c, v => Lent w a x q F c v
  | .pair a b, x, .fst :: q, F, cs, v => ∃ c d F1 F2, cs = c ++ d ∧ (∀ b, F1 b → F b) ∧ (∀ b, F2 b → F b) ∧ (∀ b, F1 b → F2 b → False) ∧ Lent w a x.1 q F1 c v ∧ DRep w b x.2 F2 d
  | .pair a b, x, .snd n :: q, F, cs, v => n = size a ∧ ∃ c d F1 F2, cs = c ++ d ∧ (∀ b, F1 b → F b) ∧ (∀ b, F2 b → F b) ∧ (∀ b, F1 b → F2 b → False) ∧ DRep w a x.1 F1 c ∧ Lent w b x.2 q F2 d v
  | _, _, _, _, _, _ => False

def GRep (F : Nat → Nat → Prop) (c : Nat) : Rg → Prop
  | .row t dp n xs => RowB w (ERep w S dp t) (size t) n xs (F c) (hv c)
  | .rowl t n xs i q d => g d ≠ none ∧ i < xs.length ∧
      RowB w (fun (e : Nat × Den t) G cs => (e.1 ≠ i ∧ DRep w t e.2 G cs) ∨ (e.1 = i ∧ Lent w t e.2 q G cs (hv d))) (size t) n (xs.zipIdx.map fun e => (e.2, e.1)) (F c) (hv c)
  | .box a => ∃ (b : Nat) (arr : Array Value) (T : Nat), hv c = .pointer (some ⟨b, 0, none⟩) ∧ w.heap[b]? = some (.cells arr T (0, 0)) ∧ F c b ∧ CRep w S hv g false a arr.toList
  | .fz t x => (∃ u, t = .sl u) ∧ Rep w S false t x [hv c]
  | .fzb t x => ∃ (b : Nat) (cs : List Value), hv c = .pointer (some ⟨b, 0, none⟩) ∧ S b ∧ rd w b 0 cs ∧ Rep w S false t x cs
  | .map k v es => (flat k = true ∧ flat v = true) ∧ ∃ (b : Nat) (arr : Array MapEntry) (clk : Nat), hv c = .map (some b) ∧ w.heap[b]? = some (.map arr clk) ∧ F c b ∧ arr.size = es.length ∧ ∀ (i : Nat) (m : MapEntry) (e : Den (.pair k v)), arr[i]? = some m → es[i]? = some e → MEnt w S k v m e
  | .gone => True
end

def Rg.owns : Rg → Bool
  | .row _ _ _ _ => true
  | .rowl _ _ _ _ _ _ => true
  | .box _ => true
  | .map _ _ _ => true
  | _ => false

structure Inv (w : World) (S : Nat → Prop) (hv : Nat → Value) (F : Nat → Nat → Prop) (g : Look) : Prop where
  rep : ∀ c r, g c = some r → GRep w S hv g F c r
  live : ∀ c b, F c b → ∃ r, g c = some r ∧ r.owns = true
  disj : ∀ c c' b, F c b → F c' b → c = c'
  shr : ∀ c b, F c b → ¬ S b
  old : ∀ c b, F c b → b < w.heap.size
  sold : ∀ b, S b → b < w.heap.size

/-- from one memory to the next, for what is spoken of -/
structure Ext (w : World) (S : Nat → Prop) (hv : Nat → Value) (g : Look) (w' : World) (S' : Nat → Prop) (hv' : Nat → Value) (g' : Look) : Prop where
  keep : KeepsC S w w'
  sub : ∀ b, S b → S' b
  hv : ∀ c, g c ≠ none → hv' c = hv c
  used : ∀ c, g c ≠ none → g' c ≠ none
  len : ∀ c n, g c ≠ none → glen g' c = some n → glen g c = some n

/-- nothing but memory turns -/
def Still (w w' : World) : Prop := w'.os = w.os ∧ w'.output = w.output ∧ w'.tape = w.tape ∧ w.drawn ≤ w'.drawn

theorem Still.trans {w w1 w2 : World} (h : Still w w1) (h' : Still w1 w2) : Still w w2 := ⟨h'.1.trans h.1, h'.2.1.trans h.2.1, h'.2.2.1.trans h.2.2.1, Nat.le_trans h.2.2.2 h'.2.2.2⟩

structure Step' (w : World) (S : Nat → Prop) (hv : Nat → Value) (F : Nat → Nat → Prop) (g : Look) (w' : World) (S' : Nat → Prop) (hv' : Nat → Value) (F' : Nat → Nat → Prop) (g' : Look) : Prop where
  inv : Inv w' S' hv' F' g'
  ext : Ext w S hv g w' S' hv' g'
  bS : ∀ b, S' b → S b ∨ (∃ c, F c b) ∨ w.heap.size ≤ b
  bF : ∀ c b, F' c b → (∃ c', F c' b) ∨ w.heap.size ≤ b
  fr : ∀ b, b < w.heap.size → (∀ c, ¬ F c b) → w'.heap[b]? = w.heap[b]?
  sz : w.heap.size ≤ w'.heap.size
  st : Still w w'

section
variable {w w' : World} {S S' : Nat → Prop} {hv hv' : Nat → Value} {g g' : Look} {F F' : Nat → Nat → Prop}

theorem Ext.refl : Ext w S hv g w S hv g := ⟨fun _ _ _ _ h => h, fun _ h => h, fun _ _ => rfl, fun _ h => h, fun _ _ _ h => h⟩

theorem PtrIn_mono {c : Nat} {p : List Step} (h : Ext w S hv g w' S' hv' g') (hc : g c ≠ none) (hp : PtrIn g c p) : PtrIn g' c p := by
  unfold PtrIn at *
  split at hp
  · intro n hn; exact hp n (h.len _ _ hc hn)
  · trivial

theorem V0_mono {R R' : List Value → Prop} {a : SV} {p : Value} (h : ∀ cs, R cs → R' cs) (hp : V0 R a p) : V0 R' a p := by
  rcases hp with hp | ⟨h1, cs, h2, h3⟩ | ⟨h1, h2⟩
  · exact .inl hp
  · exact .inr (.inl ⟨h1, cs, h2, h _ h3⟩)
  · exact .inr (.inr ⟨h1, h _ h2⟩)

theorem CRep_mono (h : Ext w S hv g w' S' hv' g') : ∀ (a : SV) (m : Bool) (cs : List Value), CRep w S hv g m a cs → CRep w' S' hv' g' m a cs := by
  intro a
  induction a with
  | dead => intro m cs hc; cases m <;> simp only [CRep] at hc ⊢; exact hc
  | v t x =>
    intro m cs hc
    cases m
    · simp only [CRep] at hc ⊢; exact Rep_mono h.keep h.sub _ _ _ _ hc
    · simp only [CRep] at hc
  | ref c =>
    intro m cs hc
    cases m
    · simp only [CRep] at hc ⊢; exact ⟨h.used _ hc.1, by rw [h.hv _ hc.1]; exact hc.2.1, by rw [h.hv _ hc.1]; exact hc.2.2⟩
    · simp only [CRep] at hc
  | sub c sz lo hi =>
    intro m cs hc
    cases m
    · simp only [CRep] at hc ⊢
      exact ⟨h.used _ hc.1, by rw [h.hv _ hc.1]; exact hc.2⟩
    · simp only [CRep] at hc
  | ptr c p =>
    intro m cs hc
    cases m
    · simp only [CRep] at hc ⊢
      exact ⟨h.used _ hc.1, by rw [h.hv _ hc.1]; exact hc.2.1, by rw [h.hv _ hc.1]; exact hc.2.2.1, PtrIn_mono h hc.1 hc.2.2.2⟩
    · simp only [CRep] at hc
  | sp t x =>
    intro m cs hc
    cases m
    · simp only [CRep] at hc ⊢
      obtain ⟨b, o, c, e, hb, hr, hx⟩ := hc
      exact ⟨b, o, c, e, h.sub _ hb, rd_keep h.keep hb hr, Rep_mono h.keep h.sub _ _ _ _ hx⟩
    · simp only [CRep] at hc
  | one a ih =>
    intro m cs hc
    cases m
    · simp only [CRep] at hc ⊢; exact ih _ _ hc
    · simp only [CRep] at hc
  | pair a b iha ihb =>
    intro m cs hc
    cases m
    · simp only [CRep] at hc ⊢
      obtain ⟨c, d, e, h1, h2⟩ := hc
      exact ⟨c, d, e, iha _ _ h1, ihb _ _ h2⟩
    · simp only [CRep] at hc
  | unit => intro m cs hc; cases m <;> simp only [CRep] at hc ⊢; exact hc
  | tup a b iha ihb =>
    intro m cs hc
    cases m
    · simp only [CRep] at hc
    · simp only [CRep] at hc ⊢
      obtain ⟨p, r, e, h1, h2⟩ := hc
      exact ⟨p, r, e, V0_mono (iha _) h1, ihb _ _ h2⟩
  | clo f a ih =>
    intro m cs hc
    cases m
    · simp only [CRep] at hc ⊢
      obtain ⟨ps, e, h1⟩ := hc
      exact ⟨ps, e, ih _ _ h1⟩
    · simp only [CRep] at hc
  | nilv => intro m cs hc; cases m <;> simp only [CRep] at hc ⊢; exact hc

theorem VR_mono (h : Ext w S hv g w' S' hv' g') (a : SV) (v : Value) (hc : VR w S hv g a v) : VR w' S' hv' g' a v := by
  unfold VR at *
  split
  · trivial
  · exact hc
  · obtain ⟨vs, e, h1⟩ := hc
    exact ⟨vs, e, CRep_mono h _ _ _ h1⟩
  · rename_i h1 h2 h3
    split at hc
    · exact absurd rfl h1
    · exact absurd rfl h2
    · exact absurd rfl (h3 _ _)
    · exact V0_mono (CRep_mono h _ _) hc

theorem Lent_mono : ∀ (t : Ty) (x : Den t) (q : List Step) (G G' : Nat → Prop) (c : List Value) (v : Value), (∀ b, G b → G' b) → (∀ b, G b → w'.heap[b]? = w.heap[b]?) → Lent w t x q G c v → Lent w' t x q G' c v := by
  intro t
  induction t with
  | int k => intro x q G G' c v _ _ h; cases q <;> simp only [Lent] at h
  | bool => intro x q G G' c v _ _ h; cases q <;> simp only [Lent] at h
  | nil => intro x q G G' c v _ _ h; cases q <;> simp only [Lent] at h
  | fn f cc ih => intro x q G G' c v _ _ h; cases q <;> simp only [Lent] at h
  | sl t ih => intro x q G G' c v _ _ h; cases q <;> simp only [Lent] at h ⊢; exact h
  | hsl t ih => intro x q G G' c v _ _ h; cases q <;> simp only [Lent] at h
  | one a ih =>
    intro x q G G' c v h1 h2 h
    cases q with
    | nil => simp only [Lent] at h
    | cons s q =>
      cases s with
      | one => simp only [Lent] at h ⊢; exact ih _ _ _ _ _ _ h1 h2 h
      | fst => simp only [Lent] at h
      | snd n => simp only [Lent] at h
      | el i sz => simp only [Lent] at h
  | pair a b iha ihb =>
    intro x q G G' c v h1 h2 h
    cases q with
    | nil => simp only [Lent] at h
    | cons s q =>
      cases s with
      | one => simp only [Lent] at h
      | el i sz => simp only [Lent] at h
      | fst =>
        simp only [Lent] at h ⊢
        obtain ⟨c1, d, F1, F2, e, g1, g2, g3, g4, g5⟩ := h
        exact ⟨c1, d, F1, F2, e, fun b hb => h1 _ (g1 b hb), fun b hb => h1 _ (g2 b hb), g3, iha _ _ _ _ _ _ (fun _ h => h) (fun b hb => h2 b (g1 b hb)) g4, DRep_mono _ _ _ _ _ (fun _ h => h) (fun b hb => h2 b (g2 b hb)) g5⟩
      | snd n =>
        simp only [Lent] at h ⊢
        obtain ⟨hn, c1, d, F1, F2, e, g1, g2, g3, g4, g5⟩ := h
        exact ⟨hn, c1, d, F1, F2, e, fun b hb => h1 _ (g1 b hb), fun b hb => h1 _ (g2 b hb), g3, DRep_mono _ _ _ _ _ (fun _ h => h) (fun b hb => h2 b (g1 b hb)) g4, ihb _ _ _ _ _ _ (fun _ h => h) (fun b hb => h2 b (g2 b hb)) g5⟩

/-- a region that memory leaves alone -/
theorem GRep_mono (h : Ext w S hv g w' S' hv' g') {c : Nat} {r : Rg} (hc : g c ≠ none) (hF : ∀ b, F c b → F' c b) (hw : ∀ b, F c b → w'.heap[b]? = w.heap[b]?) (hr : GRep w S hv g F c r) : GRep w' S' hv' g' F' c r := by
  cases r with
  | row t dp n xs =>
    simp only [GRep] at hr ⊢
    rw [h.hv _ hc]
    refine RowB_mono hF hw (fun e G cs hG he => ?_) hr
    cases dp
    · exact Rep_mono h.keep h.sub _ _ _ _ he
    · exact DRep_mono _ _ _ _ _ (fun _ h => h) (fun b hb => hw b (hG b hb)) he
  | rowl t n xs i q d =>
    simp only [GRep] at hr ⊢
    obtain ⟨h1, h3, h4⟩ := hr
    rw [h.hv _ hc, h.hv _ h1]
    refine ⟨h.used _ h1, h3, RowB_mono hF hw (fun e G cs hG he => ?_) h4⟩
    rcases he with ⟨e1, e2⟩ | ⟨e1, e2⟩
    · exact .inl ⟨e1, DRep_mono _ _ _ _ _ (fun _ h => h) (fun b hb => hw b (hG b hb)) e2⟩
    · exact .inr ⟨e1, Lent_mono _ _ _ _ _ _ _ (fun _ h => h) (fun b hb => hw b (hG b hb)) e2⟩
  | box a =>
    simp only [GRep] at hr ⊢
    obtain ⟨b, arr, T, h1, h2, h3, h4⟩ := hr
    exact ⟨b, arr, T, by rw [h.hv _ hc]; exact h1, by rw [hw b h3]; exact h2, hF _ h3, CRep_mono h _ _ _ h4⟩
  | fz t x =>
    simp only [GRep] at hr ⊢
    exact ⟨hr.1, by rw [h.hv _ hc]; exact Rep_mono h.keep h.sub _ _ _ _ hr.2⟩
  | fzb t x =>
    simp only [GRep] at hr ⊢
    obtain ⟨b, cs, h1, h2, h3, h4⟩ := hr
    exact ⟨b, cs, by rw [h.hv _ hc]; exact h1, h.sub _ h2, rd_keep h.keep h2 h3, Rep_mono h.keep h.sub _ _ _ _ h4⟩
  | map k v es =>
    simp only [GRep] at hr ⊢
    obtain ⟨hfl, b, arr, clk, h1, h2, h3, h4, h5⟩ := hr
    refine ⟨hfl, b, arr, clk, by rw [h.hv _ hc]; exact h1, by rw [hw b h3]; exact h2, hF _ h3, h4, fun i m e hm he => ?_⟩
    obtain ⟨⟨cs, p1, p2⟩, ⟨ds, p3, p4⟩⟩ := h5 i m e hm he
    exact ⟨⟨cs, p1, Rep_mono h.keep h.sub _ _ _ _ p2⟩, ⟨ds, p3, Rep_mono h.keep h.sub _ _ _ _ p4⟩⟩
  | gone => simp only [GRep]

theorem Ext.trans {w1 w2 : World} {S1 S2 : Nat → Prop} {hv1 hv2 : Nat → Value} {g1 g2 : Look} (h : Ext w S hv g w1 S1 hv1 g1) (h' : Ext w1 S1 hv1 g1 w2 S2 hv2 g2) : Ext w S hv g w2 S2 hv2 g2 :=
  ⟨fun b o v hb hv => h'.keep b o v (h.sub b hb) (h.keep b o v hb hv), fun b hb => h'.sub b (h.sub b hb), fun c hc => (h'.hv c (h.used c hc)).trans (h.hv c hc), fun c hc => h'.used c (h.used c hc),
    fun c n hc hn => h.len c n hc (h'.len c n (h.used c hc) hn)⟩

theorem Step'.trans {w1 w2 : World} {S1 S2 : Nat → Prop} {hv1 hv2 : Nat → Value} {g1 g2 : Look} {F1 F2 : Nat → Nat → Prop} (h : Step' w S hv F g w1 S1 hv1 F1 g1) (h' : Step' w1 S1 hv1 F1 g1 w2 S2 hv2 F2 g2) : Step' w S hv F g w2 S2 hv2 F2 g2 where
  inv := h'.inv
  ext := h.ext.trans h'.ext
  bS := fun b hb => by
    rcases h'.bS b hb with hb | ⟨c, hc⟩ | hb
    · exact h.bS b hb
    · rcases h.bF c b hc with hc | hc
      · exact .inr (.inl hc)
      · exact .inr (.inr hc)
    · exact .inr (.inr (Nat.le_trans h.sz hb))
  bF := fun c b hc => by
    rcases h'.bF c b hc with ⟨c', hc⟩ | hb
    · exact h.bF c' b hc
    · exact .inr (Nat.le_trans h.sz hb)
  fr := fun b hb hn => by
    rw [h'.fr b (Nat.lt_of_lt_of_le hb h.sz) (fun c hc => by
      rcases h.bF c b hc with ⟨c', hc⟩ | hge
      · exact hn c' hc
      · exact absurd hb (Nat.not_lt.2 hge))]
    exact h.fr b hb hn
  sz := Nat.le_trans h.sz h'.sz
  st := h.st.trans h'.st

theorem Step'.refl (h : Inv w S hv F g) : Step' w S hv F g w S hv F g := ⟨h, .refl, fun _ h => .inl h, fun c _ h => .inl ⟨c, h⟩, fun _ _ _ => rfl, Nat.le_refl _, ⟨rfl, rfl, rfl, Nat.le_refl _⟩⟩
end
end Go.Rf

namespace Go.Rf

section
variable {w w' : World} {S S' : Nat → Prop} {hv hv' : Nat → Value} {g g' : Look} {F F' : Nat → Nat → Prop}

/-- the regions of ids change (some are new), all else stays -/
theorem mkStep (hI : Inv w S hv F g) (ids : Nat → Prop)
    (hg : ∀ c, ¬ ids c → g' c = g c) (hF : ∀ c, ¬ ids c → F' c = F c) (hsz : w.heap.size ≤ w'.heap.size)
    (hfr : ∀ b, b < w.heap.size → (∀ c, ids c → ¬ F c b) → w'.heap[b]? = w.heap[b]?)
    (hS : ∀ b, S b → S' b) (hhv : ∀ c, g c ≠ none → hv' c = hv c) (hus : ∀ c, ids c → g c ≠ none → g' c ≠ none)
    (hlen : ∀ c n, ids c → g c ≠ none → glen g' c = some n → glen g c = some n)
    (hrep : Ext w S hv g w' S' hv' g' → ∀ c r, ids c → g' c = some r → GRep w' S' hv' g' F' c r)
    (hlive : ∀ c b, ids c → F' c b → ∃ r, g' c = some r ∧ r.owns = true)
    (hbF : ∀ c b, ids c → F' c b → (∃ c', ids c' ∧ F c' b) ∨ w.heap.size ≤ b)
    (hold : ∀ c b, ids c → F' c b → b < w'.heap.size)
    (hdj : ∀ c c' b, ids c → ids c' → F' c b → F' c' b → c = c')
    (hbS : ∀ b, S' b → S b ∨ (∃ c, ids c ∧ F c b) ∨ w.heap.size ≤ b)
    (hsold : ∀ b, S' b → b < w'.heap.size)
    (hsh : ∀ c b, ids c → F' c b → ¬ S' b) (hstill : Still w w' := by first | exact ⟨rfl, rfl, rfl, Nat.le_refl _⟩ | exact ⟨rfl, rfl, rfl, Nat.le_add_right _ _⟩ | assumption) : Step' w S hv F g w' S' hv' F' g' := by
  have hkeep : ∀ b, S b → w'.heap[b]? = w.heap[b]? := fun b hb => hfr b (hI.sold b hb) fun c _ hc => hI.shr c b hc hb
  have hx : Ext w S hv g w' S' hv' g' := by
    refine ⟨fun b o v hb hc => by rw [cell_heap (hkeep b hb)]; exact hc, hS, hhv, fun c hc => ?_, fun c n hc hn => ?_⟩
    · by_cases h : ids c
      · exact hus c h hc
      · rw [hg c h]; exact hc
    · by_cases h : ids c
      · exact hlen c n h hc hn
      · unfold glen at hn ⊢; rw [hg c h] at hn; exact hn
  have hF1 : ∀ c b, ¬ ids c → F' c b → F c b := fun c b h hb => by rw [hF c h] at hb; exact hb
  refine ⟨⟨fun c r hr => ?_, fun c b hb => ?_, fun c c' b hb hb' => ?_, fun c b hb hs => ?_, fun c b hb => ?_, hsold⟩, hx, fun b hb => ?_, fun c b hb => ?_, fun b hb hn => hfr b hb fun c _ => hn c, hsz, hstill⟩
  · by_cases h : ids c
    · exact hrep hx c r h hr
    · have hr' : g c = some r := by rw [← hg c h]; exact hr
      refine GRep_mono hx (by rw [hr']; exact fun h => by cases h) (fun b hb => by rw [hF c h]; exact hb) (fun b hb => ?_) (hI.rep c r hr')
      exact hfr b (hI.old c b hb) fun c' hc' hb' => h (hI.disj c' c b hb' hb ▸ hc')
  · by_cases h : ids c
    · exact hlive c b h hb
    · obtain ⟨r, hr, ho⟩ := hI.live c b (hF1 c b h hb)
      exact ⟨r, by rw [hg c h]; exact hr, ho⟩
  · by_cases h : ids c
    · by_cases h' : ids c'
      · exact hdj c c' b h h' hb hb'
      · rcases hbF c b h hb with ⟨c'', h1, h2⟩ | h1
        · exact absurd (hI.disj c'' c' b h2 (hF1 c' b h' hb') ▸ h1) h'
        · exact absurd (hI.old c' b (hF1 c' b h' hb')) (Nat.not_lt.2 h1)
    · by_cases h' : ids c'
      · rcases hbF c' b h' hb' with ⟨c'', h1, h2⟩ | h1
        · exact absurd (hI.disj c'' c b h2 (hF1 c b h hb) ▸ h1) h
        · exact absurd (hI.old c b (hF1 c b h hb)) (Nat.not_lt.2 h1)
      · exact hI.disj c c' b (hF1 c b h hb) (hF1 c' b h' hb')
  · by_cases h : ids c
    · exact hsh c b h hb hs
    · have h1 := hF1 c b h hb
      rcases hbS b hs with h2 | ⟨c'', h2, h3⟩ | h2
      · exact hI.shr c b h1 h2
      · exact h (hI.disj c'' c b h3 h1 ▸ h2)
      · exact absurd (hI.old c b h1) (Nat.not_lt.2 h2)
  · by_cases h : ids c
    · exact hold c b h hb
    · exact Nat.lt_of_lt_of_le (hI.old c b (hF1 c b h hb)) hsz
  · rcases hbS b hb with h | ⟨c, _, h⟩ | h
    · exact .inl h
    · exact .inr (.inl ⟨c, h⟩)
    · exact .inr (.inr h)
  · by_cases h : ids c
    · rcases hbF c b h hb with ⟨c', _, h1⟩ | h1
      · exact .inl ⟨c', h1⟩
      · exact .inr h1
    · exact .inl ⟨c, hF1 c b h hb⟩
end

/-! ### cells of one word -/
theorem Rep_one {w : World} {S : Nat → Prop} : ∀ (t : Ty) (x : Den t) (cs : List Value), Rep w S false t x cs → ∀ v ∈ cs, v.oneCell' = true := by
  intro t
  induction t with
  | int k => intro x cs h v hv; simp only [Rep] at h; rw [h.1] at hv; simp at hv; subst hv; rfl
  | bool => intro x cs h v hv; simp only [Rep] at h; rw [h] at hv; simp at hv; subst hv; rfl
  | nil => intro x cs h v hv; simp only [Rep] at h; rw [h] at hv; simp at hv
  | one a ih => intro x cs h; exact ih x cs h
  | pair a b iha ihb =>
    intro x cs h v hv
    simp only [Rep] at h
    obtain ⟨c, d, rfl, h1, h2⟩ := h
    rcases List.mem_append.1 hv with hv | hv
    · exact iha _ _ h1 v hv
    · exact ihb _ _ h2 v hv
  | sl t ih =>
    intro x cs h v hv
    simp only [Rep] at h
    rcases h with ⟨_, _, rfl⟩ | ⟨_, b, o, cap, rfl, _⟩ | ⟨_, _, A, rfl⟩ <;> (simp at hv; subst hv; rfl)
  | fn f c ih =>
    intro x cs h v hv
    simp only [Rep] at h
    obtain ⟨ps, rfl, _⟩ := h
    simp at hv; subst hv; rfl
  | hsl t ih =>
    intro x cs h v hv
    simp only [Rep] at h
    rcases h with ⟨_, _, rfl⟩ | ⟨_, b, o, cap, rfl, _⟩ <;> (simp at hv; subst hv; rfl)

theorem DRep_one {w : World} (t : Ty) (x : Den t) (F : Nat → Prop) (cs : List Value) (h : DRep w t x F cs) : ∀ v ∈ cs, v.oneCell' = true :=
  Rep_one (S := fun _ => True) t x cs (DRep_Rep t x F cs (fun _ _ => trivial) h)

theorem ERep_one {w : World} {S : Nat → Prop} {dp : Bool} {t : Ty} {x : Den t} {F : Nat → Prop} {c : List Value} (h : ERep w S dp t x F c) : ∀ v ∈ c, v.oneCell' = true := by
  cases dp
  · exact Rep_one t x c h
  · exact DRep_one t x F c h

theorem ERep_Rep {w : World} {S : Nat → Prop} {dp : Bool} {t : Ty} {x : Den t} {F : Nat → Prop} {c : List Value} (hF : ∀ b, F b → S b) (h : ERep w S dp t x F c) : Rep w S false t x c := by
  cases dp
  · exact h
  · exact DRep_Rep t x F c hF h

section
variable {w : World} {S : Nat → Prop} {hv : Nat → Value} {g : Look}
theorem CRep_one : ∀ (a : SV) (cs : List Value), CRep w S hv g false a cs → ∀ v ∈ cs, v.oneCell' = true := by
  intro a
  induction a with
  | dead => intro cs h v hv; simp only [CRep] at h; obtain ⟨u, rfl, h2⟩ := h; simp at hv; subst hv; exact h2
  | v t x => intro cs h; simp only [CRep] at h; exact Rep_one _ _ _ h
  | ref c => intro cs h v hv; simp only [CRep] at h; rw [h.2.2] at hv; simp at hv; subst hv; exact h.2.1
  | sub c sz lo hi =>
    intro cs h v hv
    simp only [CRep] at h
    obtain ⟨_, u, rfl, hs⟩ := h
    simp at hv; subst hv
    rcases hs with ⟨_, rfl, _⟩ | ⟨b, o, n, cap, o', _, rfl, _⟩ <;> rfl
  | ptr c p =>
    intro cs h v hv
    simp only [CRep] at h
    rw [h.2.1] at hv; simp at hv; subst hv
    unfold adr; split <;> rfl
  | sp t x => intro cs h v hv; simp only [CRep] at h; obtain ⟨b, o, c, rfl, _⟩ := h; simp at hv; subst hv; rfl
  | one a ih => intro cs h; simp only [CRep] at h; exact ih _ h
  | pair a b iha ihb =>
    intro cs h v hv
    simp only [CRep] at h
    obtain ⟨c, d, rfl, h1, h2⟩ := h
    rcases List.mem_append.1 hv with hv | hv
    · exact iha _ h1 v hv
    · exact ihb _ h2 v hv
  | unit => intro cs h; simp only [CRep] at h
  | tup a b => intro cs h; simp only [CRep] at h
  | clo f c => intro cs h v hv; simp only [CRep] at h; obtain ⟨ps, rfl, _⟩ := h; simp at hv; subst hv; rfl
  | nilv => intro cs h v hv; simp only [CRep] at h; subst h; simp at hv; subst hv; rfl

theorem CRep_length : ∀ (a : SV) (cs : List Value), CRep w S hv g false a cs → cs.length = a.size := by
  intro a
  induction a with
  | dead => intro cs h; simp only [CRep] at h; obtain ⟨u, rfl, h2⟩ := h; rfl
  | v t x => intro cs h; simp only [CRep] at h; exact Rep_length _ _ _ h
  | ref c => intro cs h; simp only [CRep] at h; rw [h.2.2]; rfl
  | sub c sz lo hi => intro cs h; simp only [CRep] at h; obtain ⟨_, u, rfl, hs⟩ := h; rfl
  | ptr c p => intro cs h; simp only [CRep] at h; rw [h.2.1]; rfl
  | sp t x => intro cs h; simp only [CRep] at h; obtain ⟨b, o, c, rfl, _⟩ := h; rfl
  | one a ih => intro cs h; simp only [CRep] at h; exact ih _ h
  | pair a b iha ihb =>
    intro cs h
    simp only [CRep] at h
    obtain ⟨c, d, rfl, h1, h2⟩ := h
    simp [SV.size, iha _ h1, ihb _ h2]
  | unit => intro cs h; simp only [CRep] at h
  | tup a b => intro cs h; simp only [CRep] at h
  | clo f c => intro cs h; simp only [CRep] at h; obtain ⟨ps, rfl, _⟩ := h; rfl
  | nilv => intro cs h; simp only [CRep] at h; subst h; rfl
end
end Go.Rf

namespace Go.Rf

def zcells : Ty → List Value
  | .int k => [.int k 0]
  | .bool => [.bool false]
  | .nil => []
  | .one a => zcells a
  | .pair a b => zcells a ++ zcells b
  | .sl _ => [.slice none 0 0]
  | .hsl _ => [.slice none 0 0]
  | .fn _ _ => [.nilFunc]

/-- no function inside -/
def plain : Ty → Bool
  | .one a => plain a
  | .pair a b => plain a && plain b
  | .sl a => plain a
  | .fn _ _ => false
  | .hsl _ => false
  | _ => true

def nodes : Ty → Nat
  | .one a => nodes a + 1
  | .pair a b => nodes a + nodes b + 1
  | .sl a => nodes a + 1
  | _ => 1

/-- a type's fields -/
def SFit (P : Program) (H : Hints) (T : Nat) (t : Ty) : Prop := H.nf T ≠ 0 ∧ ∃ fs, P.underlying T = some (.struct fs) ∧ fs.size = H.nf T ∧ P.stoodInHeld T = false ∧ ∀ i f, fs[i]? = some f → ∃ q u, fpath t (H.nf T) i = some (q, u) ∧ f.offset = pathOff q ∧ H.ty f.type = some u ∧ (f.name == "_") = false
/-- an array of two whole numbers -/
def AFit (P : Program) (H : Hints) (T : Nat) (t : Ty) : Prop := H.nf T = 0 ∧ t = .pair (.int .i64) (.int .i64) ∧ P.stoodInHeld T = false ∧ ∃ E, P.underlying T = some (.array 2 E) ∧ P.underlying E = some (.int .i64) ∧ ∃ i, P.info? E = some i ∧ i.size = 1

def UFit (P : Program) (H : Hints) (T : Nat) (t : Ty) : Prop :=
  match t with
  | .int k => P.underlying T = some (.int k)
  | .bool => P.underlying T = some .bool
  | .sl u => ∃ E, P.underlying T = some (.slice E) ∧ H.ty E = some u
  | .fn _ _ => False
  | .hsl _ => False
  | t => SFit P H T t ∨ AFit P H T t

structure TFit (P : Program) (H : Hints) (T : Nat) (t : Ty) : Prop where
  info : ∃ i z, P.info? T = some i ∧ i.size = size t ∧ i.bytes ≤ 128 ∧ i.zero = some z ∧ z.cells.toList = zcells t ∧ (isAgg t = true → ∃ a, z = .agg a) ∧ (isAgg t = false → ∃ v, z.cells.toList = [v] ∧ z = v)
  pos : 0 < size t
  plain : plain t = true
  small : nodes t < 1000
  guard : P.eqGuardType P.depth T = false
  under : UFit P H T t

def aggDesc : TypeDesc → Bool
  | .struct _ => true
  | .array _ _ => true
  | _ => false

/-- slices.Backward: the slice is put into a variable, and the function value holds its address -/
def BackOk (P : Program) (f gf : Nat) : Prop := (∀ args w, (callFunc f args).run P w = .ok (.enter f args) w) ∧ ∀ (A : Option Addr) (k cap : Nat) (w : World),
  Calls P f #[.slice A k cap] w fun e w' => e = .returned (.func (.func gf) #[] #[.pointer (some ⟨w.heap.size, 0, none⟩)]) ∧ ∃ T, w' = w.alloc (.cells #[.slice A k cap] T (0, 0))

/-- its function value, called with a loop's yield: the rounds i = k - 1 down to 0, each with the number i and the element that lies there then; J i: i rounds are to come -/
def IterOk (P : Program) (gf : Nat) (ag : Bool) (sz : Nat) : Prop := (∀ args w, (callFunc gf args).run P w = .ok (.enter gf args) w) ∧
  ∀ (l Bs : Nat) (J : Nat → World → Prop) (Jx : World → Prop) (A : Option Addr) (k cap : Nat) (w : World), k ≤ big → w.cell? ⟨Bs, 0, none⟩ = some (.slice A k cap) → J k w →
    (∀ i W, i < k → J (i + 1) W → ∃ b o len cap' cs v, W.cell? ⟨Bs, 0, none⟩ = some (.slice (some ⟨b, o, none⟩) len cap') ∧ i < len ∧ len ≤ big ∧ cs.length = sz ∧ rd W b (o + i * sz) cs ∧ Pk ag cs v ∧
      YieldAt Fence.wide 0 P l #[.int .i64 i, v] W fun e W' => (e = .returned (.bool true) ∧ J i W') ∨ (e = .returned (.bool false) ∧ Jx W')) →
    CallsIn Fence.wide 0 P gf #[.func (.yield l) #[] #[], .pointer (some ⟨Bs, 0, none⟩)] w fun e w' => (∃ v, e = .returned v) ∧ (J 0 w' ∨ Jx w')

/-! the orders drawn only grow -/
theorem ask_drawn {α : Type} : ∀ (m : Ask α) (w : World), w.drawn ≤ (w.ask m).2.drawn
  | .done a, w => Nat.le_refl _
  | .ask what range k, w => by
    unfold World.ask
    simp only
    split
    · exact ask_drawn (k 0) w
    · exact Nat.le_trans (Nat.le_succ _) (ask_drawn (k _) { w with drawn := w.drawn + 1 })
theorem sys_drawn (w : World) (c : Sys) : w.drawn ≤ (w.sys c).2.drawn := by
  unfold World.sys
  have h := ask_drawn (Kernel.perform c w.os) w
  split
  · exact Nat.le_refl _
  · rename_i he
    rw [he] at h
    exact h
theorem viewStore_drawn {p : Program} {w : World} {at_ : Addr} {u : TypeId} {k : Addr} {v : Value} {b : Bool} {r : World × List Addr} (h : w.viewStore p at_ u k v b = .ok r) : r.1.drawn = w.drawn := by
  unfold World.viewStore at h
  simp only [bind, Except.bind, pure, Except.pure, throw, throwThe, MonadExceptOf.throw] at h
  repeat' split at h
  all_goals first | (cases h; done) | skip
  all_goals (cases h; rfl)
theorem run_drawn {P : Program} {α : Type} : ∀ (m : Sem α) (w : World) (a : α) (w' : World), m.run P w = .ok a w' → w.drawn ≤ w'.drawn := by
  intro m
  induction m with
  | pure a => intro w x w' h; simp only [Sem.run, Result.ok.injEq] at h; rw [h.2]; exact Nat.le_refl _
  | load m a k ih =>
    intro w x w' h
    simp only [Sem.run] at h
    split at h
    · exact ih _ _ _ _ h
    · split at h
      · exact ih _ _ _ _ h
      · cases h
  | store m a v k ih =>
    intro w x w' h
    have go : ∀ w2 : World, k.run P w2 = .ok x w' → w2.drawn = w.drawn → w.drawn ≤ w'.drawn := fun w2 h2 e => by
      have := ih _ _ _ h2
      omega
    have far : ∀ r : World × List Addr, w.farStore P a v (m == .atomic) = .ok r → r.1.drawn = w.drawn := by
      intro r hf
      unfold World.farStore at hf
      split at hf
      · split at hf
        · rename_i r2 hr
          have := viewStore_drawn hr
          simp only [Except.ok.injEq] at hf
          subst hf
          exact this
        · cases hf
      · cases hf
    cases v <;> simp only [Sem.run] at h <;> try (cases h; done)
    all_goals
      split at h
      · split at h
        · cases h
        · exact go _ h (by simp)
      · split at h
        · rename_i hf
          exact go _ h (far _ hf)
        · cases h
  | new o k ih => intro w x w' h; simp only [Sem.run] at h; have h2 := ih _ _ _ _ h; exact h2
  | shape r k ih => intro w x w' h; simp only [Sem.run] at h; exact ih _ _ _ _ h
  | freeze a n k ih =>
    intro w x w' h
    simp only [Sem.run] at h
    have h2 := ih _ _ _ h
    have e : (w.freeze a n).drawn = w.drawn := by
      unfold World.freeze
      split <;> rfl
    omega
  | frozen a k ih => intro w x w' h; simp only [Sem.run] at h; exact ih _ _ _ _ h
  | getObj r k ih =>
    intro w x w' h
    simp only [Sem.run] at h
    split at h
    · cases h
    · exact ih _ _ _ _ h
    · cases h
  | setObj r o k ih =>
    intro w x w' h
    simp only [Sem.run] at h
    split at h
    · cases h
    · have h2 := ih _ _ _ h
      exact h2
    · cases h
  | choose q k ih =>
    intro w x w' h
    simp only [Sem.run] at h
    split at h
    · exact ih _ _ _ _ h
    · exact Nat.le_trans (Nat.le_succ _) (ih _ _ _ _ h)
  | sys c k ih => intro w x w' h; simp only [Sem.run] at h; exact Nat.le_trans (sys_drawn w c) (ih _ _ _ _ h)
  | program k ih => intro w x w' h; simp only [Sem.run] at h; exact ih _ _ _ _ h
  | mark m k ih => intro w x w' h; simp only [Sem.run] at h; exact ih _ _ _ h
  | halt h => intro w x w' hh; simp only [Sem.run] at hh; cases hh

/-- slices.Clone at elements of one cell: nil of nil; else a new row of the same elements -/
def CloneOk (P : Program) (f E : Nat) : Prop := (∀ args w, (callFunc f args).run P w = .ok (.enter f args) w) ∧ (∀ n c w, Calls P f #[.slice none n c] w fun e w' => e = .returned (.slice none 0 0) ∧ w' = w) ∧
  ∀ (b o n c : Nat) (cs : List Value) (w : World), cs.length = n → n ≤ lim → (∀ j u, cs[j]? = some u → w.cell? ⟨b, o + j, none⟩ = some u) → (∀ u ∈ cs, u.oneCell' = true) →
    Calls P f #[.slice (some ⟨b, o, none⟩) n c] w fun e w' => ∃ v', e = .returned v' ∧ w'.ownsRow w.heap.size E 1 v' n cs ∧ v' ≠ .slice none 0 0 ∧ Go.RowKit.Below w.heap.size w w' ∧ w.drawn ≤ w'.drawn

structure Fit (P : Program) (H : Hints) : Prop where
  ty : ∀ T t, H.ty T = some t → TFit P H T t
  cell : ∀ T, H.ty T = none → H.cell T = true → (∃ i, P.info? T = some i ∧ i.size = 1 ∧ ∃ v, i.zero = some v ∧ v.cells.toList = [v] ∧ v.oneCell' = true) ∧ ∃ d, P.underlying T = some d ∧ aggDesc d = false
  fn : ∀ key h, H.key key = some h → P.funcs[h.fid]? = some h.f ∧ h.f.body.isSome = true ∧ (h.f.name == "runtime.NumGoroutine") = false
  add64 : ∀ f, H.extF f = some .add64 → ∀ (x y c : Int) (w : World), 0 ≤ x → 0 ≤ y → 0 ≤ c → c ≤ 1 →
    (callFunc f #[.int .u64 x, .int .u64 y, .int .u64 c]).run P w = .ok (.value (.tuple #[.int .u64 ((x + y + c) % 18446744073709551616), .int .u64 ((x + y + c) / 18446744073709551616)])) w
  mixed : P.follows .mixedOrders = true
  back : ∀ f gf, H.extF f = some (.backward gf) → BackOk P f gf
  clone : ∀ f E, H.extF f = some (.clone E) → CloneOk P f E
  iter : ∀ gf E, H.iter gf = some E → ∃ t, H.ty E = some t ∧ IterOk P gf (isAgg t) (size t)
  maps : ∀ T K E, H.mty T = some (K, E) → P.underlying T = some (.map K E)

section
variable {P : Program} {H : Hints} {w : World}

theorem run_isAgg {T : Nat} {d : TypeDesc} (h : P.underlying T = some d) : (Go.isAgg T).run P w = .ok (aggDesc d) w := by
  unfold Go.isAgg
  simp only [Sem.run_bind, run_underlying h, Result.andThen_ok]
  cases d <;> rfl

theorem run_sizeOf {T : Nat} {i : TypeInfo} (h : P.info? T = some i) : (sizeOf T).run P w = .ok i.size w := by
  simp [sizeOf, typeInfo, h]

theorem under_agg {T : Nat} {t : Ty} (hf : TFit P H T t) : ∃ d, P.underlying T = some d ∧ aggDesc d = isAgg t := by
  have h := hf.under
  have hp := hf.plain
  unfold UFit at h
  split at h
  · exact ⟨_, h, rfl⟩
  · exact ⟨_, h, rfl⟩
  · obtain ⟨E, h, _⟩ := h; exact ⟨_, h, rfl⟩
  · exact h.elim
  · exact h.elim
  · rcases h with ⟨_, fs, h, _⟩ | ⟨_, ht, _, E, h, _⟩
    · refine ⟨_, h, ?_⟩
      cases t <;> simp_all [aggDesc, isAgg]
    · refine ⟨_, h, ?_⟩
      subst ht
      rfl

theorem run_ag (hf : Fit P H) {T : Nat} {ag : Bool} {n : Nat} (h : agOf H T = some (ag, n)) : (Go.isAgg T).run P w = .ok ag w ∧ (sizeOf T).run P w = .ok n w := by
  unfold agOf at h
  cases ht : H.ty T with
  | some t =>
    simp only [ht, Option.some.injEq, Prod.mk.injEq] at h
    obtain ⟨d, h1, h2⟩ := under_agg (hf.ty T t ht)
    obtain ⟨i, z, h3, h4, _⟩ := (hf.ty T t ht).info
    exact ⟨by rw [run_isAgg h1, h2, h.1], by rw [run_sizeOf h3, h4, h.2]⟩
  | none =>
    simp only [ht] at h
    cases hc : H.cell T with
    | false => simp [hc] at h
    | true =>
      simp only [hc, cond_true, Option.some.injEq, Prod.mk.injEq] at h
      obtain ⟨⟨i, h3, h4, _⟩, d, h1, h2⟩ := hf.cell T ht hc
      exact ⟨by rw [run_isAgg h1, h2, h.1], by rw [run_sizeOf h3, h4, h.2]⟩

theorem Addr.add_none (b o n : Nat) : (⟨b, o, none⟩ : Addr).add n = ⟨b, o + n, none⟩ := Addr.add_lit b o n

theorem run_loadVar (hf : Fit P H) {T : Nat} {ag : Bool} {n : Nat} (h : agOf H T = some (ag, n)) {b o : Nat} {cs : List Value} (hr : rd w b o cs) (hl : cs.length = n) (h1 : ag = false → n = 1) :
    ∃ v, (loadVar T ⟨b, o, none⟩).run P w = .ok v w ∧ Pk ag cs v := by
  obtain ⟨ha, hs⟩ := run_ag (w := w) hf h
  unfold loadVar
  simp only [Sem.run_bind, ha, Result.andThen_ok]
  cases ag with
  | true =>
    refine ⟨.agg cs.toArray, ?_, .inl ⟨rfl, rfl⟩⟩
    subst hl
    have := run_loadCells_list (P := P) w ⟨b, o, none⟩ cs (fun j v hj => by rw [Addr.add_none]; exact hr j v hj)
    simp only [if_true, Sem.run_bind, hs, Result.andThen_ok, this, Sem.run_map, Sem.run_pure]
  | false =>
    have hn := h1 rfl
    subst hn
    match cs, hl with
    | [v], _ =>
      refine ⟨v, ?_, .inr ⟨rfl, rfl⟩⟩
      have hc := hr 0 v rfl
      simp only [Bool.false_eq_true, if_false, load, Sem.run, Nat.add_zero] at hc ⊢
      rw [hc]

variable {S : Nat → Prop} {hv : Nat → Value} {g : Look}

theorem ag_spec {a : SV} {x : Bool × Nat} (h : a.ag = some x) : x.1 = a.isSt ∧ x.2 = a.size ∧ a.isDead = false := by
  cases a <;> simp [SV.ag] at h <;> subst h <;> simp [SV.isSt, SV.size, SV.isDead]

theorem VR_of_V0 {a : SV} {v : Value} {x : Bool × Nat} (h : a.ag = some x) : VR w S hv g a v ↔ V0 (CRep w S hv g false a) a v := by
  cases a <;> simp [SV.ag] at h <;> rfl

/-- a value and its cells -/
theorem VR_cells {a : SV} {v : Value} {x : Bool × Nat} (h : a.ag = some x) (hr : VR w S hv g a v) : ∃ cs, Pk x.1 cs v ∧ CRep w S hv g false a cs ∧ cs.length = x.2 ∧ v.cells.toList = cs := by
  obtain ⟨h1, h2, h3⟩ := ag_spec h
  rw [VR_of_V0 h] at hr
  rcases hr with hr | ⟨e, cs, rfl, hc⟩ | ⟨e, hc⟩
  · rw [h3] at hr; cases hr
  · exact ⟨cs, .inl ⟨by rw [h1, e], rfl⟩, hc, by rw [h2]; exact CRep_length _ _ hc, by simp [Value.cells]⟩
  · refine ⟨[v], .inr ⟨by rw [h1, e], rfl⟩, hc, by rw [h2]; exact CRep_length _ _ hc, ?_⟩
    have := CRep_one _ _ hc v (by simp)
    cases v <;> simp [Value.oneCell'] at this <;> rfl

theorem VR_of_cells {a : SV} {v : Value} {x : Bool × Nat} {cs : List Value} (h : a.ag = some x) (hp : Pk x.1 cs v) (hc : CRep w S hv g false a cs) : VR w S hv g a v := by
  obtain ⟨h1, h2, h3⟩ := ag_spec h
  rw [VR_of_V0 h]
  rcases hp with ⟨e, rfl⟩ | ⟨e, rfl⟩
  · exact .inr (.inl ⟨by rw [← h1, e], cs, rfl, hc⟩)
  · exact .inr (.inr ⟨by rw [← h1, e], hc⟩)

/-- one-celled values -/
theorem VR_cell {a : SV} {v : Value} (h : a.cell = true) : VR w S hv g a v ↔ CRep w S hv g false a [v] := by
  have hs : a.isSt = false ∧ a.isDead = false ∧ ∃ x, a.ag = some x := by
    cases a <;> simp [SV.cell] at h <;> simp [SV.isSt, SV.isDead, SV.ag, h]
  obtain ⟨h1, h2, x, h3⟩ := hs
  rw [VR_of_V0 h3]
  unfold V0
  simp [h1, h2]

theorem VR_int {k : IntKind} {n : Int} {v : Value} : VR w S hv g (.v (.int k) n) v ↔ v = .int k n ∧ k.min ≤ n ∧ n ≤ k.max := by
  rw [VR_cell rfl]
  simp [CRep, Rep]

theorem VR_bool {b : Bool} {v : Value} : VR w S hv g (.v .bool b) v ↔ v = .bool b := by
  rw [VR_cell rfl]
  simp [CRep, Rep]
end

/-! ### what an operation comes to -/
def Res (P : Program) (r : Result Next) (Post : Value → World → Prop) : Prop :=
  match r with
  | .ok (.value v) w' => Post v w'
  | .ok .skip w' => Post undef w'
  | .ok (.enter f args) w' => Calls P f args w' fun e w'' => ∃ v, e = .returned v ∧ Post v w''
  | _ => False

/-- a fence that lets all in: for a function's frame, or for a round's of a range over a function -/
def Fw (ro : Option Nat) : Fence := { Fence.wide with round := ro }
theorem callsIn_Fw {ro : Option Nat} {n : Nat} {P : Program} {f : FuncId} {args : Array Value} {w : World} {R : Ending → World → Prop} : CallsIn (Fw ro) n P f args w R ↔ Calls P f args w R := callsIn_wide (n := n)

theorem Res.wpIn {P : Program} {ro : Option Nat} {o : Oper} {a : Act} {w : World} {Post : Value → World → Prop} {K : Act → World → Prop} {Q : Exit → Act → World → Prop} (hd : ∀ c, o.op ≠ .defer c)
    (h : Res P ((execOp a.eval o).run P w) Post) (hK : ∀ v w', Post v w' → K (a.put o.dst v) w') : o.wpIn (Fw ro) 0 P a w K Q := by
  refine ⟨fun _ _ => trivial, ?_⟩
  rw [Oper.semAt_eq _ _ _ hd]
  cases hr : (execOp a.eval o).run P w with
  | ok x w' =>
    rw [hr] at h
    cases x <;> simp only [Res] at h <;> try exact h.elim
    case value v => exact hK _ _ h
    case skip => exact hK _ _ h
    case enter f args =>
      rw [Oper.uponIn_enter]
      refine ⟨fun h => by simp [Fw, Fence.wide] at h, callsIn_Fw.2 (h.mono fun e w'' ⟨v, he, hp⟩ => ?_)⟩
      subst he
      exact hK _ _ hp
  | halt x w' => rw [hr] at h; exact h.elim

/-- the step that an operation's outcome makes, and its value -/
def Out (w : World) (S : Nat → Prop) (hv : Nat → Value) (F : Nat → Nat → Prop) (g : Look) (e : Eff) (v : Value) (w' : World) : Prop :=
  ∃ S' hv' F', Step' w S hv F g w' S' hv' F' (updReg g e.upd) ∧ VR w' S' hv' (updReg g e.upd) e.val v

theorem Out.same {w : World} {S : Nat → Prop} {hv : Nat → Value} {F : Nat → Nat → Prop} {g : Look} {a : SV} {v : Value} (hI : Inv w S hv F g) (h : VR w S hv g a v) : Out w S hv F g ⟨a, []⟩ v w :=
  ⟨S, hv, F, Step'.refl hI, h⟩
end Go.Rf

namespace Go.Rf

theorem pathOff_append (p q : List Step) : pathOff (p ++ q) = pathOff p + pathOff q := by
  induction p with
  | nil => simp [pathOff]
  | cons s p ih => simp [pathOff, ih, Nat.add_assoc]

theorem rd_append {w : World} {b o : Nat} {c d : List Value} : rd w b o (c ++ d) ↔ rd w b o c ∧ rd w b (o + c.length) d := by
  constructor
  · intro h
    refine ⟨fun j v hj => h j v ?_, fun j v hj => ?_⟩
    · rw [List.getElem?_append_left (by
        rcases Nat.lt_or_ge j c.length with h1 | h1
        · exact h1
        · rw [List.getElem?_eq_none h1] at hj; cases hj)]
      exact hj
    · have := h (c.length + j) v (by rw [List.getElem?_append_right (by omega)]; simpa using hj)
      rw [Nat.add_assoc]; exact this
  · rintro ⟨h1, h2⟩ j v hj
    rcases Nat.lt_or_ge j c.length with h | h
    · rw [List.getElem?_append_left h] at hj; exact h1 j v hj
    · rw [List.getElem?_append_right h] at hj
      have := h2 _ _ hj
      rwa [Nat.add_assoc, Nat.add_sub_cancel' h] at this

theorem D_to {d : D} {t : Ty} {x : Den t} (h : d.to t = some x) : d = ⟨t, x⟩ := by
  obtain ⟨u, y⟩ := d
  unfold D.to cast at h
  split at h
  · rename_i e
    simp only at e
    subst e
    simp at h
    rw [h]
  · cases h

theorem D_to_self (t : Ty) (x : Den t) : D.to ⟨t, x⟩ t = some x := by simp [D.to, cast]

theorem cast_spec {t u : Ty} {x : Den t} {y : Den u} (h : cast t u x = some y) : (⟨t, x⟩ : D) = ⟨u, y⟩ := D_to (d := ⟨t, x⟩) h

theorem castL_spec {t u : Ty} {xs : List (Den t)} {ys : List (Den u)} (h : castL t u xs = some ys) : (⟨t, xs⟩ : (t : Ty) × List (Den t)) = ⟨u, ys⟩ := by
  unfold castL at h
  split at h
  · rename_i e; subst e; simp at h; rw [h]
  · cases h

section
variable {w : World} {S : Nat → Prop}

/-- reading a place of shared data -/
theorem Rep_get : ∀ (q : List Step) (t : Ty) (x : Den t) (cs : List Value) (d : D), Den.get t x q = some d → Rep w S false t x cs →
    ∃ c1 c2 c3, cs = c1 ++ (c2 ++ c3) ∧ c1.length = pathOff q ∧ Rep w S false d.1 d.2 c2 := by
  intro q
  induction q with
  | nil =>
    intro t x cs d h hr
    simp only [Den.get, Option.some.injEq] at h
    subst h
    exact ⟨[], cs, [], by simp, rfl, hr⟩
  | cons s q ih =>
    intro t x cs d h hr
    cases t <;> cases s <;> simp only [Den.get] at h <;> try (simp at h; done)
    case one.one a =>
      simp only [Rep] at hr
      obtain ⟨c1, c2, c3, e, hl, hd⟩ := ih a x cs d h hr
      exact ⟨c1, c2, c3, e, by simpa [pathOff, Step.off] using hl, hd⟩
    case pair.fst a b =>
      simp only [Rep] at hr
      obtain ⟨c, e, rfl, h1, h2⟩ := hr
      obtain ⟨c1, c2, c3, rfl, hl, hd⟩ := ih a x.1 c d h h1
      exact ⟨c1, c2, c3 ++ e, by simp, by simpa [pathOff, Step.off] using hl, hd⟩
    case pair.snd a b n =>
      split at h
      · rename_i hn
        simp only [Rep] at hr
        obtain ⟨c, e, rfl, h1, h2⟩ := hr
        obtain ⟨c1, c2, c3, rfl, hl, hd⟩ := ih b x.2 e d h h2
        exact ⟨c ++ c1, c2, c3, by simp, by simp [pathOff, Step.off, hl, Rep_length _ _ _ h1, hn], hd⟩
      · cases h

/-- a place of owned data -/
theorem DRep_get : ∀ (q : List Step) (t : Ty) (x : Den t) (F : Nat → Prop) (cs : List Value) (d : D), Den.get t x q = some d → DRep w t x F cs →
    ∃ c1 c2 c3, cs = c1 ++ (c2 ++ c3) ∧ c1.length = pathOff q ∧ DRep w d.1 d.2 F c2 := by
  intro q
  induction q with
  | nil =>
    intro t x F cs d h hr
    simp only [Den.get, Option.some.injEq] at h
    subst h
    exact ⟨[], cs, [], by simp, rfl, hr⟩
  | cons s q ih =>
    intro t x F cs d h hr
    cases t <;> cases s <;> simp only [Den.get] at h <;> try (simp at h; done)
    case one.one a =>
      simp only [DRep] at hr
      obtain ⟨c1, c2, c3, e, hl, hd⟩ := ih a x F cs d h hr
      exact ⟨c1, c2, c3, e, by simpa [pathOff, Step.off] using hl, hd⟩
    case pair.fst a b =>
      simp only [DRep] at hr
      obtain ⟨c, e, F1, F2, rfl, g1, g2, g3, h1, h2⟩ := hr
      obtain ⟨c1, c2, c3, rfl, hl, hd⟩ := ih a x.1 F1 c d h h1
      exact ⟨c1, c2, c3 ++ e, by simp, by simpa [pathOff, Step.off] using hl, DRep_mono _ _ _ _ _ g1 (fun _ _ => rfl) hd⟩
    case pair.snd a b n =>
      split at h
      · rename_i hn
        simp only [DRep] at hr
        obtain ⟨c, e, F1, F2, rfl, g1, g2, g3, h1, h2⟩ := hr
        obtain ⟨c1, c2, c3, rfl, hl, hd⟩ := ih b x.2 F2 e d h h2
        exact ⟨c ++ c1, c2, c3, by simp, by simp [pathOff, Step.off, hl, DRep_length _ _ _ _ h1, hn], DRep_mono _ _ _ _ _ g2 (fun _ _ => rfl) hd⟩
      · cases h

theorem ERep_get {dp : Bool} {q : List Step} {t : Ty} {x : Den t} {F : Nat → Prop} {cs : List Value} {d : D} (h : Den.get t x q = some d) (hr : ERep w S dp t x F cs) :
    ∃ c1 c2 c3, cs = c1 ++ (c2 ++ c3) ∧ c1.length = pathOff q ∧ ERep w S dp d.1 d.2 F c2 := by
  cases dp
  · exact Rep_get q t x cs d h hr
  · exact DRep_get q t x F cs d h hr

/-- writing a place of shared data -/
theorem Rep_set : ∀ (q : List Step) (t : Ty) (x y : Den t) (cs : List Value) (d : D) (c : List Value), Den.set t x q d = some y → Rep w S false t x cs → Rep w S false d.1 d.2 c →
    ∃ c1 c2 c3, cs = c1 ++ (c2 ++ c3) ∧ c1.length = pathOff q ∧ c2.length = c.length ∧ Rep w S false t y (c1 ++ (c ++ c3)) := by
  intro q
  induction q with
  | nil =>
    intro t x y cs d c h hr hc
    simp only [Den.set] at h
    have := D_to h
    subst this
    exact ⟨[], cs, [], by simp, rfl, by rw [Rep_length _ _ _ hr, Rep_length _ _ _ hc], by simpa using hc⟩
  | cons s q ih =>
    intro t x y cs d c h hr hc
    cases t <;> cases s <;> simp only [Den.set] at h <;> try (simp at h; done)
    case one.one a =>
      simp only [Rep] at hr ⊢
      obtain ⟨c1, c2, c3, e, hl, h2, hd⟩ := ih a x y cs d c h hr hc
      exact ⟨c1, c2, c3, e, by simpa [pathOff, Step.off] using hl, h2, hd⟩
    case pair.fst a b =>
      obtain ⟨z, hz, rfl⟩ := Option.map_eq_some_iff.1 h
      simp only [Rep] at hr ⊢
      obtain ⟨e1, e2, rfl, h1, h2⟩ := hr
      obtain ⟨c1, c2, c3, rfl, hl, hl2, hd⟩ := ih a x.1 z e1 d c hz h1 hc
      exact ⟨c1, c2, c3 ++ e2, by simp, by simpa [pathOff, Step.off] using hl, hl2, c1 ++ (c ++ c3), e2, by simp, hd, h2⟩
    case pair.snd a b n =>
      split at h
      · rename_i hn
        obtain ⟨z, hz, rfl⟩ := Option.map_eq_some_iff.1 h
        simp only [Rep] at hr ⊢
        obtain ⟨e1, e2, rfl, h1, h2⟩ := hr
        obtain ⟨c1, c2, c3, rfl, hl, hl2, hd⟩ := ih b x.2 z e2 d c hz h2 hc
        exact ⟨e1 ++ c1, c2, c3, by simp, by simp [pathOff, Step.off, hl, Rep_length _ _ _ h1, hn], hl2, e1, c1 ++ (c ++ c3), by simp, h1, hd⟩
      · cases h

theorem DRep_set : ∀ (q : List Step) (t : Ty) (x y : Den t) (F : Nat → Prop) (G : Nat → Prop) (cs : List Value) (d : D) (c : List Value), Den.set t x q d = some y → DRep w t x F cs → DRep w d.1 d.2 G c → (∀ b, F b → G b → False) →
    ∃ c1 c2 c3, cs = c1 ++ (c2 ++ c3) ∧ c1.length = pathOff q ∧ c2.length = c.length ∧ DRep w t y (fun b => F b ∨ G b) (c1 ++ (c ++ c3)) := by
  intro q
  induction q with
  | nil =>
    intro t x y F G cs d c h hr hc hdj
    simp only [Den.set] at h
    have := D_to h
    subst this
    exact ⟨[], cs, [], by simp, rfl, by rw [DRep_length _ _ _ _ hr, DRep_length _ _ _ _ hc], by simpa using DRep_mono _ _ _ _ _ (fun _ h => .inr h) (fun _ _ => rfl) hc⟩
  | cons s q ih =>
    intro t x y F G cs d c h hr hc hdj
    cases t <;> cases s <;> simp only [Den.set] at h <;> try (simp at h; done)
    case one.one a =>
      simp only [DRep] at hr ⊢
      obtain ⟨c1, c2, c3, e, hl, h2, hd⟩ := ih a x y F G cs d c h hr hc hdj
      exact ⟨c1, c2, c3, e, by simpa [pathOff, Step.off] using hl, h2, hd⟩
    case pair.fst a b =>
      obtain ⟨z, hz, rfl⟩ := Option.map_eq_some_iff.1 h
      simp only [DRep] at hr ⊢
      obtain ⟨e1, e2, F1, F2, rfl, g1, g2, g3, h1, h2⟩ := hr
      obtain ⟨c1, c2, c3, rfl, hl, hl2, hd⟩ := ih a x.1 z F1 G e1 d c hz h1 hc (fun b h1 h2 => hdj b (g1 b h1) h2)
      refine ⟨c1, c2, c3 ++ e2, by simp, by simpa [pathOff, Step.off] using hl, hl2, c1 ++ (c ++ c3), e2, _, F2, by simp, ?_, fun b hb => .inl (g2 b hb), ?_, hd, h2⟩
      · rintro b (hb | hb)
        · exact .inl (g1 b hb)
        · exact .inr hb
      · rintro b (hb | hb) h2
        · exact g3 b hb h2
        · exact hdj b (g2 b h2) hb
    case pair.snd a b n =>
      split at h
      · rename_i hn
        obtain ⟨z, hz, rfl⟩ := Option.map_eq_some_iff.1 h
        simp only [DRep] at hr ⊢
        obtain ⟨e1, e2, F1, F2, rfl, g1, g2, g3, h1, h2⟩ := hr
        obtain ⟨c1, c2, c3, rfl, hl, hl2, hd⟩ := ih b x.2 z F2 G e2 d c hz h2 hc (fun b h1 h2 => hdj b (g2 b h1) h2)
        refine ⟨e1 ++ c1, c2, c3, by simp, by simp [pathOff, Step.off, hl, DRep_length _ _ _ _ h1, hn], hl2, e1, c1 ++ (c ++ c3), F1, _, by simp, fun b hb => .inl (g1 b hb), ?_, ?_, h1, hd⟩
        · rintro b (hb | hb)
          · exact .inl (g2 b hb)
          · exact .inr hb
        · rintro b h1 (hb | hb)
          · exact g3 b h1 hb
          · exact hdj b (g1 b h1) hb
      · cases h

variable {hv : Nat → Value} {g : Look}

theorem CRep_mkOne {a : SV} {cs : List Value} (h : CRep w S hv g false a cs) : CRep w S hv g false (mkOne a) cs := by
  unfold mkOne
  split
  · simpa only [CRep, Rep] using h
  · simpa only [CRep] using h

theorem CRep_mkPair {a b : SV} {c d : List Value} (h : CRep w S hv g false a c) (h' : CRep w S hv g false b d) : CRep w S hv g false (mkPair a b) (c ++ d) := by
  unfold mkPair
  split
  · simp only [CRep, Rep] at *; exact ⟨c, d, rfl, h, h'⟩
  · simp only [CRep]; exact ⟨c, d, rfl, h, h'⟩

/-- reading a place of a box's content -/
theorem CRep_get : ∀ (q : List Step) (a b : SV) (cs : List Value), a.get q = some b → CRep w S hv g false a cs → ∃ c1 c2 c3, cs = c1 ++ (c2 ++ c3) ∧ c1.length = pathOff q ∧ CRep w S hv g false b c2 := by
  intro q
  induction q with
  | nil =>
    intro a b cs h hr
    cases a <;> simp [SV.get] at h <;> subst h <;> exact ⟨[], cs, [], by simp, rfl, hr⟩
  | cons s q ih =>
    intro a b cs h hr
    cases a
    case v t x =>
      simp only [SV.get] at h
      obtain ⟨d, hd, rfl⟩ := Option.map_eq_some_iff.1 h
      simp only [CRep] at hr ⊢
      exact Rep_get _ _ _ _ _ hd hr
    case one a =>
      cases s <;> simp only [SV.get] at h <;> try (simp at h; done)
      simp only [CRep] at hr
      obtain ⟨c1, c2, c3, e, hl, hd⟩ := ih a b cs h hr
      exact ⟨c1, c2, c3, e, by simpa [pathOff, Step.off] using hl, hd⟩
    case pair a a' =>
      cases s <;> simp only [SV.get] at h <;> try (simp at h; done)
      case fst =>
        simp only [CRep] at hr
        obtain ⟨c, e, rfl, h1, h2⟩ := hr
        obtain ⟨c1, c2, c3, rfl, hl, hd⟩ := ih a b c h h1
        exact ⟨c1, c2, c3 ++ e, by simp, by simpa [pathOff, Step.off] using hl, hd⟩
      case snd n =>
        split at h
        · rename_i hn
          simp only [CRep] at hr
          obtain ⟨c, e, rfl, h1, h2⟩ := hr
          obtain ⟨c1, c2, c3, rfl, hl, hd⟩ := ih a' b e h h2
          exact ⟨c ++ c1, c2, c3, by simp, by simp [pathOff, Step.off, hl, CRep_length _ _ h1, hn], hd⟩
        · cases h
    all_goals simp [SV.get] at h

theorem SV.fits_size {old new : SV} (h : old.fits new = true) : old.size = new.size := by
  unfold SV.fits at h
  split at h <;> simp_all

/-- writing a place of a box's content -/
theorem CRep_set : ∀ (q : List Step) (a a' y : SV) (cs c : List Value), SV.set a q y = some a' → CRep w S hv g false a cs → CRep w S hv g false y c →
    ∃ c1 c2 c3, cs = c1 ++ (c2 ++ c3) ∧ c1.length = pathOff q ∧ c2.length = c.length ∧ CRep w S hv g false a' (c1 ++ (c ++ c3)) := by
  intro q
  induction q with
  | nil =>
    intro a a' y cs c h hr hc
    have h' : (if a.fits y then some y else none) = some a' := by cases a <;> simpa [SV.set] using h
    split at h'
    · rename_i hf
      simp at h'; subst h'
      exact ⟨[], cs, [], by simp, rfl, by rw [CRep_length _ _ hr, CRep_length _ _ hc, SV.fits_size hf], by simpa using hc⟩
    · cases h'
  | cons s q ih =>
    intro a a' y cs c h hr hc
    cases a
    case v t x =>
      cases t <;> cases s <;> simp only [SV.set] at h <;> try (simp at h; done)
      case one.one t =>
        obtain ⟨z, hz, rfl⟩ := Option.map_eq_some_iff.1 h
        have hr' : CRep w S hv g false (.v t x) cs := by simpa only [CRep, Rep] using hr
        obtain ⟨c1, c2, c3, e, hl, h2, hd⟩ := ih _ _ _ _ _ hz hr' hc
        exact ⟨c1, c2, c3, e, by simpa [pathOff, Step.off] using hl, h2, CRep_mkOne hd⟩
      case pair.fst t u =>
        obtain ⟨z, hz, rfl⟩ := Option.map_eq_some_iff.1 h
        simp only [CRep, Rep] at hr
        obtain ⟨e1, e2, rfl, h1, h2⟩ := hr
        obtain ⟨c1, c2, c3, rfl, hl, hl2, hd⟩ := ih (.v t x.1) z y e1 c hz (by simpa only [CRep] using h1) hc
        exact ⟨c1, c2, c3 ++ e2, by simp, by simpa [pathOff, Step.off] using hl, hl2, by simpa using CRep_mkPair hd (b := .v u x.2) (by simpa only [CRep] using h2)⟩
      case pair.snd t u n =>
        split at h
        · rename_i hn
          obtain ⟨z, hz, rfl⟩ := Option.map_eq_some_iff.1 h
          simp only [CRep, Rep] at hr
          obtain ⟨e1, e2, rfl, h1, h2⟩ := hr
          obtain ⟨c1, c2, c3, rfl, hl, hl2, hd⟩ := ih (.v u x.2) z y e2 c hz (by simpa only [CRep] using h2) hc
          exact ⟨e1 ++ c1, c2, c3, by simp, by simp [pathOff, Step.off, hl, Rep_length _ _ _ h1, hn], hl2, by simpa using CRep_mkPair (a := .v t x.1) (by simpa only [CRep] using h1) hd⟩
        · cases h
    case one a =>
      cases s <;> simp only [SV.set] at h <;> try (simp at h; done)
      obtain ⟨z, hz, rfl⟩ := Option.map_eq_some_iff.1 h
      simp only [CRep] at hr
      obtain ⟨c1, c2, c3, e, hl, h2, hd⟩ := ih _ _ _ _ _ hz hr hc
      exact ⟨c1, c2, c3, e, by simpa [pathOff, Step.off] using hl, h2, CRep_mkOne hd⟩
    case pair a b =>
      cases s <;> simp only [SV.set] at h <;> try (simp at h; done)
      case fst =>
        obtain ⟨z, hz, rfl⟩ := Option.map_eq_some_iff.1 h
        simp only [CRep] at hr
        obtain ⟨e1, e2, rfl, h1, h2⟩ := hr
        obtain ⟨c1, c2, c3, rfl, hl, hl2, hd⟩ := ih _ _ _ _ _ hz h1 hc
        exact ⟨c1, c2, c3 ++ e2, by simp, by simpa [pathOff, Step.off] using hl, hl2, by simpa using CRep_mkPair hd h2⟩
      case snd n =>
        split at h
        · rename_i hn
          obtain ⟨z, hz, rfl⟩ := Option.map_eq_some_iff.1 h
          simp only [CRep] at hr
          obtain ⟨e1, e2, rfl, h1, h2⟩ := hr
          obtain ⟨c1, c2, c3, rfl, hl, hl2, hd⟩ := ih _ _ _ _ _ hz h2 hc
          exact ⟨e1 ++ c1, c2, c3, by simp, by simp [pathOff, Step.off, hl, CRep_length _ _ h1, hn], hl2, by simpa using CRep_mkPair h1 hd⟩
        · cases h
    all_goals (cases s <;> simp [SV.set] at h)
end
end Go.Rf

namespace Go.Rf

section
variable {P : Program} {H : Hints} {w : World} {S : Nat → Prop} {hv : Nat → Value} {F : Nat → Nat → Prop} {g : Look}

theorem typed_VR {T : Nat} {a : SV} {v : Value} (h : VR w S hv g a v) : VR w S hv g (typed H T a) v := by
  unfold typed
  split
  · split
    · rename_i t _
      rw [VR_cell rfl] at h ⊢
      simp only [CRep, List.cons.injEq, and_true] at h
      subst h
      simp [CRep, Rep]
    · exact h
  · exact h

theorem Res_value {r : Result Next} {v : Value} {Post : Value → World → Prop} (h : r = .ok (.value v) w) (hp : Post v w) : Res P r Post := by subst h; exact hp

theorem move_sound (hI : Inv w S hv F g) (o : Oper) (ρ : Operand → Value) (x : Operand) (ho : o.op = .move x ∨ o.op = .assign x) {a : SV} (hx : VR w S hv g a (ρ x)) :
    Res P ((execOp ρ o).run P w) (Out w S hv F g ⟨typed H o.type a, []⟩) := by
  refine Res_value (v := ρ x) ?_ (Out.same hI (typed_VR hx))
  rcases ho with ho | ho <;> (unfold execOp; simp [ho])

theorem pick_sound (hI : Inv w S hv F g) (o : Oper) (ρ : Operand → Value) (c x y : Operand) (ho : o.op = .pick c x y) {b : Bool} {a a' : SV}
    (hc : VR w S hv g (.v .bool b) (ρ c)) (hx : VR w S hv g a (ρ x)) (hy : VR w S hv g a' (ρ y)) :
    Res P ((execOp ρ o).run P w) (Out w S hv F g ⟨typed H o.type (bif b then a else a'), []⟩) := by
  rw [VR_bool] at hc
  cases b with
  | true => exact Res_value (v := ρ x) (by unfold execOp; simp [ho, hc, asBool]) (Out.same hI (typed_VR hx))
  | false => exact Res_value (v := ρ y) (by unfold execOp; simp [ho, hc, asBool]) (Out.same hI (typed_VR hy))

theorem based_adr {v : Value} (h : based v) : ∃ b o, (v = .pointer (some ⟨b, o, none⟩) ∨ ∃ n c, v = .slice (some ⟨b, o, none⟩) n c) ∧ ∀ n, adr v n = .pointer (some ⟨b, o + n, none⟩) := by
  unfold based at h
  split at h
  · rename_i a; obtain ⟨b, o, s⟩ := a; simp only at h; subst h; exact ⟨b, o, .inl rfl, fun n => rfl⟩
  · rename_i a n c; obtain ⟨b, o, s⟩ := a; simp only at h; subst h; exact ⟨b, o, .inr ⟨n, c, rfl⟩, fun n => rfl⟩
  · exact h.elim

theorem nilCheck_sound (hI : Inv w S hv F g) (o : Oper) (ρ : Operand → Value) (x : Operand) (ho : o.op = .nilCheck x) {a : SV} (hx : VR w S hv g a (ρ x))
    (ha : (∃ c q, a = .ptr c q) ∨ (∃ t y, a = .sp t y) ∨ (∃ f c, a = .clo f c)) : Res P ((execOp ρ o).run P w) (Out w S hv F g ⟨a, []⟩) := by
  refine Res_value (v := ρ x) ?_ (Out.same hI hx)
  rcases ha with ⟨c, q, rfl⟩ | ⟨t, y, rfl⟩ | ⟨f, c, rfl⟩
  · rw [VR_cell rfl] at hx
    simp only [CRep, List.cons.injEq, and_true] at hx
    obtain ⟨_, h1, h2, _⟩ := hx
    obtain ⟨b, o', _, h3⟩ := based_adr h2
    unfold execOp
    simp [ho, h1, h3]
  · rw [VR_cell rfl] at hx
    simp only [CRep, List.cons.injEq, and_true] at hx
    obtain ⟨b, o', c, h1, _⟩ := hx
    unfold execOp
    simp [ho, h1]
  · rw [VR_cell rfl] at hx
    simp only [CRep, List.cons.injEq, and_true] at hx
    obtain ⟨ps, h1, _⟩ := hx
    unfold execOp
    simp [ho, h1]

theorem VR_v {t : Ty} {x : Den t} {v : Value} (ht : isAgg t = false) : VR w S hv g (.v t x) v ↔ Rep w S false t x [v] := by
  rw [VR_cell (by simp [SV.cell, ht])]
  simp only [CRep]

theorem int_out (hI : Inv w S hv F g) {k : IntKind} {n : Int} (h : k.min ≤ n ∧ n ≤ k.max) : Out w S hv F g ⟨.v (.int k) n, []⟩ (.int k n) w := Out.same hI (VR_int.2 ⟨rfl, h⟩)
theorem bool_out (hI : Inv w S hv F g) {b : Bool} : Out w S hv F g ⟨.v .bool b, []⟩ (.bool b) w := Out.same hI (VR_bool.2 rfl)

theorem shr_in (k : IntKind) (x : Int) (n : Nat) (h : k.min ≤ x ∧ x ≤ k.max) : k.min ≤ Int.fdiv x (2 ^ n) ∧ Int.fdiv x (2 ^ n) ≤ k.max := by
  have hp : (0 : Int) < 2 ^ n := Int.pow_pos (by decide)
  have h0 : Int.fdiv x (2 ^ n) = x / 2 ^ n := Int.fdiv_eq_ediv_of_nonneg _ (Int.le_of_lt hp)
  rw [h0]
  have hm0 : k.min ≤ 0 := by cases k <;> decide
  have hM0 : 0 ≤ k.max := by cases k <;> decide
  constructor
  · by_cases hx : 0 ≤ x
    · exact Int.le_trans hm0 (Int.ediv_nonneg hx (Int.le_of_lt hp))
    · refine Int.le_trans h.1 ?_
      rw [Int.le_ediv_iff_mul_le hp]
      have : x * 2 ^ n ≤ x * 1 := Int.mul_le_mul_of_nonpos_left (by omega) (by omega)
      simpa using this
  · by_cases hx : 0 ≤ x
    · exact Int.le_trans (Int.ediv_le_self _ hx) h.2
    · exact Int.le_trans (Int.le_of_lt (Int.ediv_neg_of_neg_of_pos (by omega) hp)) hM0

theorem rem_in (k : IntKind) (x y : Int) (h : k.min ≤ x ∧ x ≤ k.max) : k.min ≤ Int.tmod x y ∧ Int.tmod x y ≤ k.max := by
  have hm0 : k.min ≤ 0 := by cases k <;> decide
  have hM0 : 0 ≤ k.max := by cases k <;> decide
  have h1 : (Int.tmod x y).natAbs ≤ x.natAbs := by
    rw [Int.natAbs_tmod]; exact Nat.mod_le _ _
  by_cases hx : 0 ≤ x
  · have := Int.tmod_nonneg y hx
    omega
  · have := Int.tmod_nonneg (a := -x) y (by omega)
    rw [Int.neg_tmod] at this
    omega

theorem binInt_sound (hI : Inv w S hv F g) (gl : Look) (o : Oper) (ρ : Operand → Value) (op : BinOp) (T U : Nat) (x y : Operand) (ho : o.op = .binOp op T x y U) {k k' : IntKind} {m n : Int}
    (hx : VR w S hv g (.v (.int k) m) (ρ x)) (hy : VR w S hv g (.v (.int k') n) (ρ y)) {e : Eff} (he : (binE H gl op T (.v (.int k) m) (.v (.int k') n)).run = some e) :
    Res P ((execOp ρ o).run P w) (Out w S hv F g e) := by
  rw [VR_int] at hx hy
  unfold execOp
  simp only [ho, hx.1, hy.1]
  unfold binE at he
  have hk : op ≠ .shl → op ≠ .shr → k = k' := by
    intro h1 h2
    by_cases hk : k = k'
    · exact hk
    · cases op <;> simp [hk, M.run] at he h1 h2
  cases op
  case shl =>
    simp only [M.run] at he
    by_cases hn : n < 0
    · simp [hn, M.run] at he
    · simp only [hn, decide_false, cond_false, M.run, Option.some.injEq] at he
      subst he
      refine Res_value (v := .int k (k.wrap (m * 2 ^ min n.toNat k.bits))) ?_ (int_out hI (wrap_within _ _))
      simp [eqGuard_shl, binOp_shl, shift_shl_any _ _ _ _ (Int.not_lt.1 hn)]
  case shr =>
    simp only [M.run] at he
    by_cases hn : n < 0
    · simp [hn, M.run] at he
    · simp only [hn, decide_false, cond_false, M.run, Option.some.injEq] at he
      subst he
      refine Res_value (v := .int k (Int.fdiv m (2 ^ min n.toNat k.bits))) ?_ (int_out hI (shr_in _ _ _ hx.2))
      simp [eqGuard_shr, binOp_shr, Op.shift, hn]
  all_goals
    obtain rfl := hk (by simp) (by simp)
    simp only [decide_true] at he
  case add => simp only [M.run, Option.some.injEq] at he; subst he; exact Res_value (v := .int k (k.wrap (m + n))) (by simp [eqGuard_add, binOp_add, Op.intArith]) (int_out hI (wrap_within _ _))
  case sub => simp only [M.run, Option.some.injEq] at he; subst he; exact Res_value (v := .int k (k.wrap (m - n))) (by simp [eqGuard_sub, binOp_sub, Op.intArith]) (int_out hI (wrap_within _ _))
  case mul => simp only [M.run, Option.some.injEq] at he; subst he; exact Res_value (v := .int k (k.wrap (m * n))) (by simp [eqGuard_mul, binOp_mul, Op.intArith]) (int_out hI (wrap_within _ _))
  case quo =>
    simp only [M.run] at he
    by_cases hn : n = 0
    · subst hn; simp [M.run] at he
    · have hb : (n == 0) = false := by simpa using hn
      simp only [hb, cond_false, M.run, Option.some.injEq] at he
      subst he
      exact Res_value (v := .int k (k.wrap (Int.tdiv m n))) (by simp [eqGuard_quo, binOp_quo, Op.intDiv, hn]) (int_out hI (wrap_within _ _))
  case rem =>
    simp only [M.run] at he
    by_cases hn : n = 0
    · subst hn; simp [M.run] at he
    · have hb : (n == 0) = false := by simpa using hn
      simp only [hb, cond_false, M.run, Option.some.injEq] at he
      subst he
      exact Res_value (v := .int k (Int.tmod m n)) (by simp [eqGuard_rem, binOp_rem, Op.intDiv, hn]) (int_out hI (rem_in _ _ _ hx.2))
  case and => simp only [bitsOp, M.run, Option.some.injEq] at he; subst he; exact Res_value (v := .int k (k.wrap ((BitVec.ofInt k.bits m &&& BitVec.ofInt k.bits n).toNat))) (by simp [eqGuard_and, binOp_and, Op.intBits]) (int_out hI (wrap_within _ _))
  case or => simp only [bitsOp, M.run, Option.some.injEq] at he; subst he; exact Res_value (v := .int k (k.wrap ((BitVec.ofInt k.bits m ||| BitVec.ofInt k.bits n).toNat))) (by simp [eqGuard_or, binOp_or, Op.intBits]) (int_out hI (wrap_within _ _))
  case xor => simp only [bitsOp, M.run, Option.some.injEq] at he; subst he; exact Res_value (v := .int k (k.wrap ((BitVec.ofInt k.bits m ^^^ BitVec.ofInt k.bits n).toNat))) (by simp [eqGuard_xor, binOp_xor, Op.intBits]) (int_out hI (wrap_within _ _))
  case andNot => simp only [bitsOp, M.run, Option.some.injEq] at he; subst he; exact Res_value (v := .int k (k.wrap ((BitVec.ofInt k.bits m &&& ~~~ BitVec.ofInt k.bits n).toNat))) (by simp [eqGuard_andNot, binOp_andNot, Op.intBits]) (int_out hI (wrap_within _ _))
  case eql => simp only [M.run, Option.some.injEq] at he; subst he; exact Res_value (v := .bool (m == n)) (by simp [eqGuard_at_int, binOp_eql]) (bool_out hI)
  case neq => simp only [M.run, Option.some.injEq] at he; subst he; exact Res_value (v := .bool (m != n)) (by simp [eqGuard_at_int, binOp_neq]) (bool_out hI)
  case lss => simp only [M.run, Option.some.injEq] at he; subst he; exact Res_value (v := .bool (decide (m < n))) (by simp [eqGuard_lss, binOp_lss]) (bool_out hI)
  case leq => simp only [M.run, Option.some.injEq] at he; subst he; exact Res_value (v := .bool (decide (m ≤ n))) (by simp [eqGuard_leq, binOp_leq]) (bool_out hI)
  case gtr => simp only [M.run, Option.some.injEq] at he; subst he; exact Res_value (v := .bool (decide (m > n))) (by simp [eqGuard_gtr, binOp_gtr]) (bool_out hI)
  case geq => simp only [M.run, Option.some.injEq] at he; subst he; exact Res_value (v := .bool (decide (m ≥ n))) (by simp [eqGuard_geq, binOp_geq]) (bool_out hI)
end
end Go.Rf

namespace Go.Rf

section
variable {P : Program} {H : Hints} {w : World} {S : Nat → Prop} {hv : Nat → Value} {F : Nat → Nat → Prop} {g gl : Look}

theorem un_sound (hI : Inv w S hv F g) (o : Oper) (ρ : Operand → Value) (op : UnOp) (T : Nat) (x : Operand) (ho : o.op = .unOp op T x) {a : SV} (hx : VR w S hv g a (ρ x)) {e : Eff} (he : (unE op a).run = some e) :
    Res P ((execOp ρ o).run P w) (Out w S hv F g e) := by
  unfold unE at he
  split at he
  · rename_i k n
    simp only [M.run, Option.some.injEq] at he; subst he
    rw [VR_int] at hx
    exact Res_value (v := .int k (k.wrap (0 - n))) (by unfold execOp; simp [ho, hx.1, Op.unary, Op.intArith]) (int_out hI (wrap_within _ _))
  · rename_i k n
    rw [VR_int] at hx
    simp only [bitsOp, M.run, Option.some.injEq] at he; subst he
    exact Res_value (v := .int k _) (by unfold execOp; simp [ho, hx.1, Op.unary, Op.intBits]) (int_out hI (wrap_within _ _))
  · rename_i b
    simp only [M.run, Option.some.injEq] at he; subst he
    rw [VR_bool] at hx
    exact Res_value (v := .bool (!b)) (by unfold execOp; simp [ho, hx, Op.unary]) (bool_out hI)
  · simp [M.run] at he

theorem convert_sound (hf : Fit P H) (hI : Inv w S hv F g) (o : Oper) (ρ : Operand → Value) (src E : Nat) (x : Operand) (ho : o.op = .convert src E x) {k k' : IntKind} {n : Int} (hx : VR w S hv g (.v (.int k) n) (ρ x)) (hs : H.ty src ≠ none) (hE : H.ty E = some (.int k')) :
    Res P ((execOp ρ o).run P w) (Out w S hv F g ⟨.v (.int k') (k'.wrap n), []⟩) := by
  rw [VR_int] at hx
  have hu := (hf.ty E _ hE).under
  obtain ⟨t, ht⟩ := Option.ne_none_iff_exists'.1 hs
  obtain ⟨d, hd, _⟩ := under_agg (hf.ty src t ht)
  simp only [UFit] at hu
  refine Res_value (v := .int k' (k'.wrap n)) ?_ (int_out hI (wrap_within _ _))
  unfold execOp
  simp [ho, hx.1, convert, run_underlying hu, run_underlying hd, Conv.intToInt]

inductive All2 {α β : Type} (R : α → β → Prop) : List α → List β → Prop where
  | nil : All2 R [] []
  | cons {a : α} {b : β} {as : List α} {bs : List β} : R a b → All2 R as bs → All2 R (a :: as) (b :: bs)

theorem All2.map {α β γ : Type} {R : α → β → Prop} {f : γ → α} {h : γ → β} : ∀ (l : List γ), (∀ x ∈ l, R (f x) (h x)) → All2 R (l.map f) (l.map h)
  | [], _ => .nil
  | a :: l, H => .cons (H a (by simp)) (All2.map l fun x hx => H x (by simp [hx]))

theorem CRep_tupOf {as : List SV} {vs : List Value} (h : All2 (fun a v => VR w S hv g a v) as vs) : CRep w S hv g true (tupOf as) vs := by
  induction h with
  | nil => simp [tupOf, CRep]
  | cons h1 h2 ih =>
    rename_i a v as vs
    simp only [tupOf, CRep]
    refine ⟨v, vs, rfl, ?_, ih⟩
    cases ha : a.ag with
    | some x => exact (VR_of_V0 ha).1 h1
    | none => cases a <;> simp [SV.ag] at ha <;> exact .inl rfl

theorem makeFunc_sound (hI : Inv w S hv F g) (o : Oper) (ρ : Operand → Value) (f : Nat) (caps : Array Operand) (ho : o.op = .makeFunc (.func f) #[] caps) {as : List SV} (hx : All2 (fun a v => VR w S hv g a v) as (caps.toList.map ρ)) :
    Res P ((execOp ρ o).run P w) (Out w S hv F g ⟨.clo f (tupOf as), []⟩) := by
  refine Res_value (v := .func (.func f) #[] (caps.map ρ)) ?_ (Out.same hI ?_)
  · unfold execOp; simp [ho, Instr.makeFunc]
  · rw [VR_cell rfl]
    simp only [CRep]
    exact ⟨caps.toList.map ρ, by rw [show caps.map ρ = (caps.toList.map ρ).toArray from Array.ext' (by simp)], CRep_tupOf hx⟩

theorem CRep_tupDrop : ∀ (i : Nat) (a x y : SV) (vs : List Value), tupDrop i a = .tup x y → CRep w S hv g true a vs → ∃ v, vs[i]? = some v ∧ V0 (CRep w S hv g false x) x v := by
  intro i
  induction i with
  | zero =>
    intro a x y vs h hr
    have : a = .tup x y := by cases a <;> simpa [tupDrop] using h
    subst this
    simp only [CRep] at hr
    obtain ⟨p, r, rfl, h1, _⟩ := hr
    exact ⟨p, rfl, h1⟩
  | succ i ih =>
    intro a x y vs h hr
    cases a <;> simp only [tupDrop] at h <;> try (cases h; done)
    case tup b c =>
      simp only [CRep] at hr
      obtain ⟨p, r, rfl, _, h2⟩ := hr
      obtain ⟨v, hv, h3⟩ := ih c x y r h h2
      exact ⟨v, by simpa using hv, h3⟩

theorem extract_sound (hI : Inv w S hv F g) (o : Oper) (ρ : Operand → Value) (i : Nat) (x : Operand) (ho : o.op = .extract x i) {a b c : SV} (hx : VR w S hv g a (ρ x)) (hd : tupDrop i a = .tup b c) :
    Res P ((execOp ρ o).run P w) (Out w S hv F g ⟨match b.ag with
      | some _ => b
      | none => .dead, []⟩) := by
  have ha : ∃ p q, a = .tup p q := by
    cases i <;> cases a <;> simp [tupDrop] at hd <;> exact ⟨_, _, rfl⟩
  obtain ⟨p, q, rfl⟩ := ha
  simp only [VR] at hx
  obtain ⟨vs, h1, h2⟩ := hx
  obtain ⟨v, hv, h3⟩ := CRep_tupDrop i _ _ _ _ hd h2
  refine Res_value (v := v) ?_ (Out.same hI ?_)
  · unfold execOp
    simp [ho, h1, Instr.extract, hv]
  · split
    · rename_i y hy; exact (VR_of_V0 hy).2 h3
    · trivial

theorem fpath_el : ∀ (t : Ty) (n i : Nat) (q : List Step) (u : Ty), fpath t n i = some (q, u) → q ≠ [] ∧ ∀ s ∈ q, ∀ j z, s ≠ .el j z := by
  intro t
  induction t with
  | pair a b iha ihb =>
    intro n i q u h
    match n, i with
    | 0, _ => simp [fpath] at h
    | 1, _ => simp [fpath] at h
    | n + 2, 0 => simp [fpath] at h; obtain ⟨rfl, _⟩ := h; simp
    | 2, 1 => simp [fpath] at h; obtain ⟨rfl, _⟩ := h; simp
    | 2, i + 2 => simp [fpath] at h
    | n + 3, i + 1 =>
      simp only [fpath] at h
      obtain ⟨r, hr, he⟩ := Option.map_eq_some_iff.1 h
      simp at he
      obtain ⟨rfl, rfl⟩ := he
      have := ihb _ _ _ _ hr
      refine ⟨by simp, ?_⟩
      intro s hs
      rcases List.mem_cons.1 hs with rfl | hs
      · simp
      · exact this.2 s hs
  | one a ih =>
    intro n i q u h
    match n, i with
    | 0, _ => simp [fpath] at h
    | 1, 0 => simp [fpath] at h; obtain ⟨rfl, _⟩ := h; simp
    | 1, i + 1 => simp [fpath] at h
    | n + 2, _ => simp [fpath] at h
  | _ => intro n i q u h; simp [fpath] at h

theorem PtrIn_append {c : Nat} {p q : List Step} (hq : q ≠ [] ∧ ∀ s ∈ q, ∀ j z, s ≠ .el j z) (h : PtrIn g c p) : PtrIn g c (p ++ q) := by
  unfold PtrIn at *
  cases p with
  | nil =>
    simp only [List.nil_append]
    split
    · rename_i i z r
      exact absurd rfl (hq.2 (.el i z) (by simp) i z)
    · trivial
  | cons s p => cases s <;> first | exact h | trivial

theorem fpath_lt : ∀ (t : Ty) (n i : Nat) (r : List Step × Ty), fpath t n i = some r → i < n := by
  intro t
  induction t with
  | pair a b iha ihb =>
    intro n i r h
    match n, i with
    | 0, _ => simp [fpath] at h
    | 1, _ => simp [fpath] at h
    | n + 2, 0 => omega
    | 2, 1 => omega
    | 2, i + 2 => simp [fpath] at h
    | n + 3, i + 1 =>
      simp only [fpath] at h
      obtain ⟨r, hr, he⟩ := Option.map_eq_some_iff.1 h
      have := ihb _ _ _ hr
      omega
  | one a ih =>
    intro n i r h
    match n, i with
    | 0, _ => simp [fpath] at h
    | 1, 0 => omega
    | 1, i + 1 => simp [fpath] at h
    | n + 2, _ => simp [fpath] at h
  | _ => intro n i r h; simp [fpath] at h

/-- the struct's field, as the program has it -/
theorem under_field {T i : Nat} {t u : Ty} {q : List Step} (hf : Fit P H) (ht : H.ty T = some t) (h : fpath t (H.nf T) i = some (q, u)) :
    ∃ fs f, P.underlying T = some (.struct fs) ∧ fs[i]? = some f ∧ f.offset = pathOff q ∧ H.ty f.type = some u := by
  have hu := (hf.ty T t ht).under
  unfold UFit at hu
  split at hu
  · simp [fpath] at h
  · simp [fpath] at h
  · simp [fpath] at h
  · exact hu.elim
  · exact hu.elim
  · have hu : SFit P H T t := hu.elim id fun ha => by
      rw [ha.1] at h
      cases t <;> simp [fpath] at h
    obtain ⟨_, fs, h1, h0, _, h2⟩ := hu
    have hlt := fpath_lt _ _ _ _ h
    rw [← h0] at hlt
    obtain ⟨q', u', h3, h4, h5, _⟩ := h2 i fs[i] (Array.getElem?_eq_getElem hlt)
    rw [h] at h3
    simp at h3
    obtain ⟨rfl, rfl⟩ := h3
    exact ⟨fs, fs[i], h1, Array.getElem?_eq_getElem hlt, h4, h5⟩

theorem run_fieldAt (hf : Fit P H) {T i : Nat} {t u : Ty} {q : List Step} (ht : H.ty T = some t) (h : fpath t (H.nf T) i = some (q, u)) (b o : Nat) :
    (Instr.fieldAt T (.pointer (some ⟨b, o, none⟩)) i).run P w = .ok (.pointer (some ⟨b, o + pathOff q, none⟩)) w := by
  obtain ⟨fs, f, h1, h2, h3, h4⟩ := under_field hf ht h
  obtain ⟨j, z, h5, h6, _⟩ := (hf.ty _ _ h4).info
  have hp := (hf.ty _ _ h4).pos
  have hs : j.size ≠ 0 := by omega
  unfold Instr.fieldAt
  simp [run_underlying h1, h2, Instr.sureAddr, fieldPlace, run_sizeOf h5, hs, h3, Addr.add_none]

theorem fieldAddr_ptr (hf : Fit P H) (hI : Inv w S hv F g) (o : Oper) (ρ : Operand → Value) (T i : Nat) (x : Operand) (ho : o.op = .fieldAddr T x i) {t u : Ty} {q r : List Step} {c : Nat} (ht : H.ty T = some t) (h : fpath t (H.nf T) i = some (q, u)) (hx : VR w S hv g (.ptr c r) (ρ x)) :
    Res P ((execOp ρ o).run P w) (Out w S hv F g ⟨.ptr c (r ++ q), []⟩) := by
  rw [VR_cell rfl] at hx
  simp only [CRep, List.cons.injEq, and_true] at hx
  obtain ⟨h1, h2, h3, h4⟩ := hx
  obtain ⟨b, o', _, h5⟩ := based_adr h3
  refine Res_value (v := adr (hv c) (pathOff (r ++ q))) ?_ (Out.same hI ?_)
  · unfold execOp
    simp [ho, h2, h5, run_fieldAt hf ht h, pathOff_append, Nat.add_assoc]
  · rw [VR_cell rfl]
    simp only [CRep]
    exact ⟨h1, trivial, h3, PtrIn_append (fpath_el _ _ _ _ _ h) h4⟩

theorem fieldAddr_sp (hf : Fit P H) (hI : Inv w S hv F g) (o : Oper) (ρ : Operand → Value) (T i : Nat) (x : Operand) (ho : o.op = .fieldAddr T x i) {t u : Ty} {q : List Step} {y : Den t} {e : D} (ht : H.ty T = some t) (h : fpath t (H.nf T) i = some (q, u)) (hx : VR w S hv g (.sp t y) (ρ x)) (he : Den.get t y q = some e) :
    Res P ((execOp ρ o).run P w) (Out w S hv F g ⟨.sp e.1 e.2, []⟩) := by
  rw [VR_cell rfl] at hx
  simp only [CRep, List.cons.injEq, and_true] at hx
  obtain ⟨b, o', c, h1, h2, h3, h4⟩ := hx
  obtain ⟨c1, c2, c3, rfl, h5, h6⟩ := Rep_get _ _ _ _ _ he h4
  refine Res_value (v := .pointer (some ⟨b, o' + pathOff q, none⟩)) ?_ (Out.same hI ?_)
  · unfold execOp
    simp [ho, h1, run_fieldAt hf ht h]
  · rw [VR_cell rfl]
    simp only [CRep]
    refine ⟨b, o' + pathOff q, c2, rfl, h2, ?_, h6⟩
    have := (rd_append.1 (rd_append.1 h3).2).1
    rwa [h5] at this

theorem run_part (hf : Fit P H) {T : Nat} {u : Ty} (hT : H.ty T = some u) {c1 c2 c3 : List Value} (hl : c2.length = size u) : ∃ v, (part T (c1 ++ (c2 ++ c3)).toArray c1.length).run P w = .ok v w ∧ Pk (isAgg u) c2 v := by
  obtain ⟨d, h1, h2⟩ := under_agg (hf.ty T u hT)
  obtain ⟨i, z, h3, h4, _⟩ := (hf.ty T u hT).info
  unfold part
  simp only [Sem.run_bind, run_isAgg h1, Result.andThen_ok, h2]
  cases ha : isAgg u with
  | true =>
    refine ⟨.agg c2.toArray, ?_, .inl ⟨rfl, rfl⟩⟩
    simp only [if_true, Sem.run_bind, run_sizeOf h3, Result.andThen_ok, Sem.run_pure, h4]
    congr 2
    apply Array.ext'
    simp [← hl, List.extract_eq_take_drop]
  | false =>
    have h5 : size u = 1 := by cases u <;> simp [isAgg] at ha <;> rfl
    rw [h5] at hl
    match c2, hl with
    | [v], _ =>
      refine ⟨v, ?_, .inr ⟨rfl, rfl⟩⟩
      simp

theorem field_sound (hf : Fit P H) (hI : Inv w S hv F g) (o : Oper) (ρ : Operand → Value) (T i : Nat) (x : Operand) (ho : o.op = .field T x i) {t u : Ty} {q : List Step} {a b : SV} (ht : H.ty T = some t) (h : fpath t (H.nf T) i = some (q, u)) (hx : VR w S hv g a (ρ x)) (hb : a.get q = some b) (hg : b.ag = some (isAgg u, size u)) :
    Res P ((execOp ρ o).run P w) (Out w S hv F g ⟨b, []⟩) := by
  have hq := fpath_el _ _ _ _ _ h
  have ha : ∃ n, a.ag = some (true, n) := by
    cases q with
    | nil => exact absurd rfl hq.1
    | cons s q =>
      cases a
      case v t' x' =>
        refine ⟨size t', ?_⟩
        simp only [SV.get] at hb
        obtain ⟨d, hd, _⟩ := Option.map_eq_some_iff.1 hb
        cases t' <;> cases s <;> simp [Den.get] at hd <;> rfl
      case one a => exact ⟨_, rfl⟩
      case pair a b => exact ⟨_, rfl⟩
      all_goals (simp [SV.get] at hb)
  obtain ⟨n, ha⟩ := ha
  obtain ⟨cs, hp, hc, hl, _⟩ := VR_cells ha hx
  rcases hp with ⟨_, hv'⟩ | ⟨h', _⟩
  case inr => cases h'
  obtain ⟨c1, c2, c3, rfl, h5, h6⟩ := CRep_get _ _ _ _ hb hc
  obtain ⟨fs, f, h1, h2, h3, h4⟩ := under_field hf ht h
  obtain ⟨v, h7, h8⟩ := run_part (P := P) (w := w) (c1 := c1) (c3 := c3) hf h4 (by rw [CRep_length _ _ h6, (ag_spec hg).2.1.symm])
  refine Res_value (v := v) ?_ (Out.same hI (VR_of_cells hg h8 h6))
  unfold execOp
  rw [h5, ← h3] at h7
  simp [ho, hv', Instr.field, run_underlying h1, h2, asAgg, h7]
end
end Go.Rf

namespace Go.Rf

section
variable {P : Program} {H : Hints} {w : World} {S : Nat → Prop} {hv : Nat → Value} {F : Nat → Nat → Prop} {g gl : Look}

theorem RowB_hdr {α : Type} {E : α → (Nat → Prop) → List Value → Prop} {sz : Nat} {n : Bool} {xs : List α} {Fc : Nat → Prop} {v : Value} (h : RowB w E sz n xs Fc v) :
    (n = true ∧ xs = [] ∧ v = .slice none 0 0) ∨ (n = false ∧ xs.length ≤ big ∧ ∃ b o cap, v = .slice (some ⟨b, o, none⟩) xs.length cap ∧ xs.length ≤ cap) := by
  rcases h with h | ⟨h0, b, o, cap, arr, T, G, h1, h2, h3, _⟩
  · exact .inl h
  · exact .inr ⟨h0, h3, b, o, cap, h1, h2⟩

theorem Rep_hdr {t : Ty} {x : Den (.sl t)} {v : Value} (h : Rep w S false (.sl t) x [v]) :
    (x.1 = true ∧ x.2 = [] ∧ v = .slice none 0 0) ∨ (x.1 = false ∧ x.2.length ≤ big ∧ ∃ b o cap, v = .slice (some ⟨b, o, none⟩) x.2.length cap ∧ x.2.length ≤ cap) ∨ (x.1 = false ∧ x.2 = [] ∧ ∃ A, v = .slice (some A) 0 0) := by
  simp only [Rep] at h
  rcases h with ⟨h1, h2, h3⟩ | ⟨h0, b, o, cap, h1, h2, h3, _⟩ | ⟨h0, h1, A, h2⟩
  · exact .inl ⟨h1, h2, by simpa using h3⟩
  · exact .inr (.inl ⟨h0, h3, b, o, cap, by simpa using h1, h2⟩)
  · exact .inr (.inr ⟨h0, h1, A, by simpa using h2⟩)

/-- nil, length and value of a slice that is owned or shared -/
def Hdr (n : Bool) (len : Nat) (v : Value) : Prop := (n = true ∧ len = 0 ∧ v = .slice none 0 0) ∨ (n = false ∧ len ≤ big ∧ ∃ b o cap, v = .slice (some ⟨b, o, none⟩) len cap ∧ len ≤ cap)

theorem Hdr.len {n : Bool} {k : Nat} {v : Value} (h : Hdr n k v) : ∃ a cap, v = .slice a k cap ∧ k ≤ big ∧ k ≤ cap ∧ (n = a.isNone) := by
  rcases h with ⟨h1, h2, h3⟩ | ⟨h1, h2, b, o, cap, h3, h4⟩
  · exact ⟨none, 0, by rw [h3, h2], by simp [h2, big], by omega, by simp [h1]⟩
  · exact ⟨_, cap, h3, h2, h4, by simp [h1]⟩

/-- shared: an empty one may have any address -/
def HdrS (n : Bool) (len : Nat) (v : Value) : Prop := Hdr n len v ∨ (n = false ∧ len = 0 ∧ ∃ A, v = .slice (some A) 0 0)

theorem HdrS.len {n : Bool} {k : Nat} {v : Value} (h : HdrS n k v) : ∃ a cap, v = .slice a k cap ∧ k ≤ big ∧ k ≤ cap ∧ (n = a.isNone) := by
  rcases h with h | ⟨rfl, rfl, A, rfl⟩
  · exact h.len
  · exact ⟨some A, 0, rfl, Nat.zero_le _, Nat.le_refl _, rfl⟩

theorem hdrS_of {t : Ty} {x : Den (.sl t)} {v : Value} (h : Rep w S false (.sl t) x [v]) : HdrS x.1 x.2.length v := by
  rcases Rep_hdr h with ⟨h1, h2, h3⟩ | h2 | ⟨h1, h2, A, h3⟩
  · exact .inl (.inl ⟨h1, by simp [h2], h3⟩)
  · exact .inl (.inr h2)
  · exact .inr ⟨h1, by simp [h2], A, h3⟩

theorem hdr_row {c : Nat} {t : Ty} {dp n : Bool} {xs : List (Den t)} (hI : Inv w S hv F g) (h : g c = some (.row t dp n xs)) : Hdr n xs.length (hv c) := by
  have := hI.rep c _ h
  simp only [GRep] at this
  rcases RowB_hdr this with ⟨h1, h2, h3⟩ | h2
  · exact .inl ⟨h1, by simp [h2], h3⟩
  · exact .inr h2

theorem hdr_rowl {c i d : Nat} {q : List Step} {t : Ty} {n : Bool} {xs : List (Den t)} (hI : Inv w S hv F g) (h : g c = some (.rowl t n xs i q d)) : Hdr n xs.length (hv c) := by
  have := hI.rep c _ h
  simp only [GRep] at this
  have hr := RowB_hdr this.2.2
  simp only [List.length_map, List.length_zipIdx] at hr
  rcases hr with ⟨h1, h2, h3⟩ | h2
  · exact .inl ⟨h1, by have := congrArg List.length h2; simpa using this, h3⟩
  · exact .inr h2

theorem hdr_fz {c : Nat} {t : Ty} {x : Den (.sl t)} (hI : Inv w S hv F g) (h : g c = some (.fz (.sl t) x)) : HdrS x.1 x.2.length (hv c) := by
  have := hI.rep c _ h
  simp only [GRep] at this
  exact hdrS_of this.2

theorem hdr_v {t : Ty} {x : Den (.sl t)} {v : Value} (h : VR w S hv g (.v (.sl t) x) v) : HdrS x.1 x.2.length v := by
  rw [VR_v rfl] at h
  exact hdrS_of h

theorem SubV_len {v hc : Value} {sz lo hi : Nat} (h : SubV hc sz lo hi v) : ∃ a cap, v = .slice a (hi - lo) cap ∧ lo ≤ hi := by
  rcases h with ⟨_, h1, h2, h3⟩ | ⟨b, o, n, cap, o', _, h1, h2, _⟩
  · exact ⟨none, 0, by rw [h1, h2, h3], by omega⟩
  · exact ⟨_, _, h1, h2⟩

theorem SubV_le {v : Value} {sz lo hi k : Nat} {n : Bool} {hc : Value} (hh : Hdr n k hc) (h : SubV hc sz lo hi v) : hi ≤ k ∧ k ≤ big := by
  rcases h with ⟨h0, h1, h2, h3⟩ | ⟨b, o, n', cap, o', h0, h1, h2, h3, _⟩
  · rcases hh with ⟨_, e, _⟩ | ⟨_, e, _⟩
    · exact ⟨by omega, by simp [e, big]⟩
    · exact ⟨by omega, e⟩
  · rcases hh with ⟨_, _, e⟩ | ⟨_, e1, b', o'', cap', e, _⟩
    · rw [h0] at e; cases e
    · rw [h0] at e; cases e; exact ⟨h3, e1⟩

theorem ref_val {c : Nat} {v : Value} (h : VR w S hv g (.ref c) v) : v = hv c := by
  rw [VR_cell rfl] at h
  simp only [CRep] at h
  have := h.2.2
  simpa using this

theorem lenOf_sound (hI : Inv w S hv F g) (hl : ∀ c r, gl c = some r → g c = some r) {a : SV} {v : Value} {n : Int} (h : VR w S hv g a v) (hn : lenOf gl a = some n) :
    ∃ b k c, v = .slice b k c ∧ n = (k : Int) := by
  cases a <;> simp only [lenOf] at hn
  case v t x =>
    cases t <;> simp at hn
    obtain ⟨a, cap, h1, _⟩ := (hdr_v h).len
    exact ⟨a, _, cap, h1, hn.symm⟩
  case ref c =>
    rw [ref_val h]
    cases hc : gl c with
    | none => simp [hc] at hn
    | some r =>
      have hg := hl _ _ hc
      cases r <;> simp [hc] at hn
      case row t dp n' xs => obtain ⟨a, cap, h1, _⟩ := (hdr_row hI hg).len; exact ⟨a, _, cap, h1, hn.symm⟩
      case rowl t n' xs i q d => obtain ⟨a, cap, h1, _⟩ := (hdr_rowl hI hg).len; exact ⟨a, _, cap, h1, hn.symm⟩
      case fz t x =>
        cases t <;> simp at hn
        obtain ⟨a, cap, h1, _⟩ := (hdr_fz hI hg).len
        exact ⟨a, _, cap, h1, hn.symm⟩
  case sub c sz lo hi =>
    rw [VR_cell rfl] at h
    simp only [CRep] at h
    obtain ⟨_, u, h1, h2⟩ := h
    simp at h1
    subst h1
    obtain ⟨a, cap, h3, _⟩ := SubV_len h2
    exact ⟨a, _, cap, h3, by simpa using hn.symm⟩
  case nilv =>
    rw [VR_cell rfl] at h
    simp only [CRep] at h
    exact ⟨none, 0, 0, by simpa using h, by simpa using hn.symm⟩
  all_goals simp at hn

theorem int64_in {k : Nat} (h : k ≤ big) : IntKind.i64.min ≤ (k : Int) ∧ (k : Int) ≤ IntKind.i64.max := by
  unfold big at h
  have e1 : IntKind.i64.min = -9223372036854775808 := by decide
  have e2 : IntKind.i64.max = 9223372036854775807 := by decide
  rw [e1, e2]; omega

theorem lenOf_big (hI : Inv w S hv F g) (hl : ∀ c r, gl c = some r → g c = some r) {a : SV} {v : Value} {n : Int} (h : VR w S hv g a v) (hn : lenOf gl a = some n) : IntKind.i64.min ≤ n ∧ n ≤ IntKind.i64.max := by
  cases a <;> simp only [lenOf] at hn
  case v t x =>
    cases t <;> simp at hn
    obtain ⟨a, cap, h1, h2, _⟩ := (hdr_v h).len
    rw [← hn]; exact int64_in h2
  case ref c =>
    cases hc : gl c with
    | none => simp [hc] at hn
    | some r =>
      have hg := hl _ _ hc
      cases r <;> simp [hc] at hn
      case row t dp n' xs => obtain ⟨a, cap, h1, h2, _⟩ := (hdr_row hI hg).len; rw [← hn]; exact int64_in h2
      case rowl t n' xs i q d => obtain ⟨a, cap, h1, h2, _⟩ := (hdr_rowl hI hg).len; rw [← hn]; exact int64_in h2
      case fz t x =>
        cases t <;> simp at hn
        obtain ⟨a, cap, h1, h2, _⟩ := (hdr_fz hI hg).len
        rw [← hn]; exact int64_in h2
  case sub c sz lo hi =>
    simp at hn
    rw [VR_cell rfl] at h
    simp only [CRep] at h
    obtain ⟨hc, u, h1, h2⟩ := h
    rw [← hn]
    rcases h2 with ⟨h0, _, e1, e2⟩ | ⟨b, o, n', cap, o', h0, _, e1, e2, e3, e4, _⟩
    · subst e1 e2; exact int64_in (by simp [big])
    · exact int64_in (by omega)
  case nilv => simp at hn; rw [← hn]; decide
  all_goals simp at hn

theorem builtin_exec (o : Oper) (ρ : Operand → Value) (b : Builtin) (xs : Array Operand) (ts : Array TypeId) (ho : o.op = .call { callee := .builtin b, args := xs, argTypes := ts }) :
    ∃ cs : Array Bool, (execOp ρ o).run P w = (builtin b ts o.type cs (xs.map ρ)).run P w := by
  unfold execOp
  simp only [ho, resolve, invoke, Sem.run_bind, Sem.run_pure, Result.andThen_ok]
  exact ⟨_, rfl⟩

theorem len_sound (hf : Fit P H) (hI : Inv w S hv F g) (hl : ∀ c r, gl c = some r → g c = some r) (o : Oper) (ρ : Operand → Value) (T : Nat) (x : Operand) (ho : o.op = .call { callee := .builtin .len, args := #[x], argTypes := #[T] }) {t : Ty} (hT : H.ty T = some (.sl t)) {a : SV} (hx : VR w S hv g a (ρ x)) {n : Int} (hn : lenOf gl a = some n) :
    Res P ((execOp ρ o).run P w) (Out w S hv F g ⟨.v (.int .i64) n, []⟩) := by
  obtain ⟨E, hu, _⟩ := (hf.ty T _ hT).under
  obtain ⟨b, k, c, h1, h2⟩ := lenOf_sound hI hl hx hn
  refine Res_value (v := .int .i64 n) ?_ (int_out hI (lenOf_big hI hl hx hn))
  obtain ⟨bs, hb⟩ := builtin_exec (P := P) (w := w) o ρ _ _ _ ho
  rw [hb]
  simp [builtin, Builtin.len_, run_underlying hu, h1, goInt, h2]

theorem cap_sound (hf : Fit P H) (hI : Inv w S hv F g) (o : Oper) (ρ : Operand → Value) (T : Nat) (x : Operand) (ho : o.op = .call { callee := .builtin .cap, args := #[x], argTypes := #[T] }) {t : Ty} (hT : H.ty T = some (.sl t)) {a : SV} (hx : VR w S hv g a (ρ x)) (ha : a = .nilv ∨ ∃ u y, a = .v (.sl u) y ∧ y.1 = true) :
    Res P ((execOp ρ o).run P w) (Out w S hv F g ⟨.v (.int .i64) (0 : Int), []⟩) := by
  obtain ⟨E, hu, _⟩ := (hf.ty T _ hT).under
  have h1 : ρ x = .slice none 0 0 := by
    rcases ha with rfl | ⟨u, y, rfl, hy⟩
    · rw [VR_cell rfl] at hx; simpa [CRep] using hx
    · rcases hdr_v hx with (⟨_, _, h⟩ | ⟨h, _⟩) | ⟨h, _⟩
      · exact h
      · rw [hy] at h; cases h
      · rw [hy] at h; cases h
  refine Res_value (v := .int .i64 0) ?_ (int_out hI (by decide))
  obtain ⟨bs, hb⟩ := builtin_exec (P := P) (w := w) o ρ _ _ _ ho
  rw [hb]
  simp [builtin, Builtin.cap_, run_underlying hu, h1, goInt]

/-! an element's address -/
theorem at_run {len : Nat} {n : Int} {r e : Eff} (h : (at_ len n r).run = some e) : 0 ≤ n ∧ n < len ∧ e = r := by
  unfold at_ at h
  simp only [M.run] at h
  by_cases h1 : 0 ≤ n
  · by_cases h2 : n < len
    · simp [h1, h2, M.run] at h; exact ⟨h1, h2, h.symm⟩
    · simp [h1, h2, M.run] at h
  · simp [h1, M.run] at h

theorem run_indexAt (hf : Fit P H) {T : Nat} {u : Ty} (hT : H.ty T = some (.sl u)) {b o len cap : Nat} {k : IntKind} {n : Int} (h0 : 0 ≤ n) (h1 : n < len) :
    (Instr.indexAt T (.slice (some ⟨b, o, none⟩) len cap) (.int k n)).run P w = .ok (.pointer (some ⟨b, o + n.toNat * size u, none⟩)) w := by
  obtain ⟨E, hu, hE⟩ := (hf.ty T _ hT).under
  obtain ⟨i, z, h3, h4, _⟩ := (hf.ty E _ hE).info
  unfold Instr.indexAt
  simp [run_underlying hu, asIntOf, h0, h1, run_sizeOf h3, h4, Addr.add_none]

theorem index_sound (hf : Fit P H) (hI : Inv w S hv F g) (hl : ∀ c r, gl c = some r → g c = some r) (o : Oper) (ρ : Operand → Value) (T : Nat) (x i : Operand) (ho : o.op = .indexAddr T x i) {u : Ty} (hT : H.ty T = some (.sl u)) {a : SV} (hx : VR w S hv g a (ρ x)) {k : IntKind} {n : Int} (hi : VR w S hv g (.v (.int k) n) (ρ i)) {e : Eff} (he : (indexE u gl a n).run = some e) :
    Res P ((execOp ρ o).run P w) (Out w S hv F g e) := by
  rw [VR_int] at hi
  have hex : (execOp ρ o).run P w = ((Instr.indexAt T (ρ x) (.int k n)).run P w).andThen fun v w' => .ok (.value v) w' := by
    unfold execOp; simp [ho, hi.1]
  have none0 : ∀ {m : Bool} {len : Nat} {v : Value}, HdrS m len v → 0 ≤ n → n < len → ∃ b o cap, v = .slice (some ⟨b, o, none⟩) len cap := by
    intro m len v h h0 h1
    rcases h with (⟨_, h2, _⟩ | ⟨_, _, b, o, cap, h2, _⟩) | ⟨_, h2, _⟩
    · omega
    · exact ⟨b, o, cap, h2⟩
    · omega
  unfold indexE at he
  split at he
  · rename_i t y
    split at he <;> try (simp [M.run] at he; done)
    rename_i htu
    have htu := of_decide_eq_true htu
    subst htu
    obtain ⟨h0, h1, rfl⟩ := at_run he
    obtain ⟨b, o', cap, hv'⟩ := none0 (hdr_v hx) h0 h1
    refine Res_value (v := .pointer (some ⟨b, o' + n.toNat * size t, none⟩)) ?_ (Out.same hI ?_)
    · rw [hex, hv', run_indexAt hf hT h0 h1]; rfl
    · rw [VR_v rfl] at hx
      simp only [Rep] at hx
      rcases hx with ⟨_, h2, _⟩ | ⟨_, b2, o2, c2, h2, _, _, h3⟩ | ⟨_, h2, _⟩
      · rw [h2] at h1; simp at h1; omega
      rotate_left
      · rw [h2] at h1; simp at h1; omega
      · rw [hv'] at h2
        simp at h2
        obtain ⟨⟨rfl, rfl⟩, _⟩ := h2
        have hlt : n.toNat < y.2.length := by omega
        obtain ⟨hS, c, hc1, hc2, hc3⟩ := h3 n.toNat (y.2.getD n.toNat (dflt t)) (by simp [List.getD, hlt])
        rw [VR_cell rfl]
        simp only [CRep]
        exact ⟨b, _, c, rfl, hS, hc2, hc3⟩
  · rename_i t y
    split at he <;> try (simp [M.run] at he; done)
    rename_i htu
    have htu := of_decide_eq_true htu
    subst htu
    simp only [M.run] at he
    by_cases h0 : 0 ≤ n
    · by_cases h1 : n < y.2.length
      · simp only [h0, h1, decide_true, cond_true] at he
        obtain ⟨z, hz, he⟩ := Option.bind_eq_some_iff.1 he
        simp only [M.run, Option.some.injEq] at he
        subst he
        have hz' : y.2[n.toNat]? = some (some z) := by
          rw [List.getD_eq_getElem?_getD] at hz
          cases hq : y.2[n.toNat]? with
          | none => simp [hq] at hz
          | some q => simp only [hq, Option.getD_some] at hz; rw [hz]
        rw [VR_v rfl] at hx
        simp only [Rep] at hx
        rcases hx with ⟨_, h2, _⟩ | ⟨_, b, o', cap, h2, _, _, h3⟩
        · rw [h2] at h1; simp at h1; omega
        · have hv' : ρ x = .slice (some ⟨b, o', none⟩) y.2.length cap := by simpa using h2
          obtain ⟨hS, c, hc1, hc2, hc3⟩ := h3 n.toNat z hz'
          refine Res_value (v := .pointer (some ⟨b, o' + n.toNat * size t, none⟩)) ?_ (Out.same hI ?_)
          · rw [hex, hv', run_indexAt hf hT h0 h1]; rfl
          · rw [VR_cell rfl]
            simp only [CRep]
            exact ⟨b, _, c, rfl, hS, hc2, hc3⟩
      · simp [h0, h1, M.run] at he
    · simp [h0, M.run] at he
  · rename_i c
    have hval := ref_val hx
    have hc : g c ≠ none := by rw [VR_cell rfl] at hx; simp only [CRep] at hx; exact hx.1
    have ptr : ∀ {m : Bool} {len : Nat}, Hdr m len (hv c) → glen g c = some len → 0 ≤ n → n < len → Res P ((execOp ρ o).run P w) (Out w S hv F g ⟨.ptr c [.el n.toNat (size u)], []⟩) := by
      intro m len hh hlen h0 h1
      obtain ⟨b, o', cap, hv'⟩ := none0 (.inl hh) h0 h1
      refine Res_value (v := .pointer (some ⟨b, o' + n.toNat * size u, none⟩)) ?_ (Out.same hI ?_)
      · rw [hex, hval, hv', run_indexAt hf hT h0 h1]; rfl
      · rw [VR_cell rfl]
        simp only [CRep]
        refine ⟨hc, by simp [hv', adr, pathOff, Step.off], by rw [hv']; exact rfl, ?_⟩
        simp only [PtrIn]
        intro n' hn'
        rw [hlen] at hn'
        cases hn'
        omega
    split at he
    · rename_i t dp m xs hg
      split at he <;> try (simp [M.run] at he; done)
      rename_i htu
      have htu := of_decide_eq_true htu
      subst htu
      obtain ⟨h0, h1, rfl⟩ := at_run he
      exact ptr (hdr_row hI (hl _ _ hg)) (by simp [glen, hl _ _ hg, Rg.len]) h0 h1
    · rename_i t m xs i' q d hg
      split at he <;> try (simp [M.run] at he; done)
      rename_i htu
      have htu := of_decide_eq_true htu
      subst htu
      obtain ⟨h0, h1, rfl⟩ := at_run he
      exact ptr (hdr_rowl hI (hl _ _ hg)) (by simp [glen, hl _ _ hg, Rg.len]) h0 h1
    · rename_i t y hg
      split at he <;> try (simp [M.run] at he; done)
      rename_i htu
      have htu := of_decide_eq_true htu
      subst htu
      obtain ⟨h0, h1, rfl⟩ := at_run he
      obtain ⟨b, o', cap, hv'⟩ := none0 (hdr_fz hI (hl _ _ hg)) h0 h1
      refine Res_value (v := .pointer (some ⟨b, o' + n.toNat * size t, none⟩)) ?_ (Out.same hI ?_)
      · rw [hex, hval, hv', run_indexAt hf hT h0 h1]; rfl
      · have hr := (hI.rep c _ (hl _ _ hg))
        simp only [GRep] at hr
        have hr := hr.2
        simp only [Rep] at hr
        rcases hr with ⟨_, h2, _⟩ | ⟨_, b2, o2, c2, h2, _, _, h3⟩ | ⟨_, h2, _⟩
        · rw [h2] at h1; simp at h1; omega
        rotate_left
        · rw [h2] at h1; simp at h1; omega
        · rw [hv'] at h2
          simp at h2
          obtain ⟨⟨rfl, rfl⟩, _⟩ := h2
          have hlt : n.toNat < y.2.length := by omega
          obtain ⟨hS, c', hc1, hc2, hc3⟩ := h3 n.toNat (y.2.getD n.toNat (dflt t)) (by simp [List.getD, hlt])
          rw [VR_cell rfl]
          simp only [CRep]
          exact ⟨b, _, c', rfl, hS, hc2, hc3⟩
    · simp [M.run] at he
  · rename_i c sz lo hi
    rw [VR_cell rfl] at hx
    simp only [CRep] at hx
    obtain ⟨hc, v, hv1, hsub⟩ := hx
    have hv1 : v = ρ x := by simpa using hv1.symm
    subst hv1
    have sub0 : 0 ≤ n → n < ((hi - lo : Nat) : Int) → ∃ b o o' m cap, hv c = .slice (some ⟨b, o, none⟩) m cap ∧ ρ x = .slice (some ⟨b, o', none⟩) (hi - lo) (cap - lo) ∧ o' = o + lo * sz ∧ hi ≤ m := by
      intro h0 h1
      rcases hsub with ⟨_, _, e1, e2⟩ | ⟨b, o1, m, cap, o', e1, e2, e3, e4, e5, e6, e7, e8⟩
      · omega
      · exact ⟨b, o1, o', m, cap, e1, e2, e7 (by omega), e4⟩
    split at he
    · rename_i t dp m xs hg
      split at he <;> try (simp [M.run] at he; done)
      rename_i htu hsz
      have htu := of_decide_eq_true htu
      subst htu
      have hsz : sz = size t := by simpa using hsz
      subst hsz
      obtain ⟨h0, h1, rfl⟩ := at_run he
      obtain ⟨b, o1, o', m', cap, e1, e2, e3, e4⟩ := sub0 h0 h1
      have hh := hdr_row hI (hl _ _ hg)
      have hm : m' = xs.length := by
        rcases hh with ⟨_, _, e⟩ | ⟨_, _, b', o'', cap', e, _⟩
        · rw [e1] at e; cases e
        · rw [e1] at e; cases e; rfl
      refine Res_value (v := .pointer (some ⟨b, o' + n.toNat * size t, none⟩)) ?_ (Out.same hI ?_)
      · rw [hex, e2, run_indexAt hf hT h0 h1]; rfl
      · rw [VR_cell rfl]
        simp only [CRep]
        refine ⟨hc, ?_, by rw [e1]; exact rfl, ?_⟩
        · simp [e1, adr, pathOff, Step.off, e3, Nat.add_mul, Nat.add_assoc]
        · simp only [PtrIn]
          intro n' hn'
          simp [glen, hl _ _ hg, Rg.len] at hn'
          omega
    · rename_i t y hg
      split at he <;> try (simp [M.run] at he; done)
      rename_i htu hsz
      have htu := of_decide_eq_true htu
      subst htu
      have hsz : sz = size t := by simpa using hsz
      subst hsz
      obtain ⟨h0, h1, rfl⟩ := at_run he
      obtain ⟨b, o1, o', m', cap, e1, e2, e3, e4⟩ := sub0 h0 h1
      refine Res_value (v := .pointer (some ⟨b, o' + n.toNat * size t, none⟩)) ?_ (Out.same hI ?_)
      · rw [hex, e2, run_indexAt hf hT h0 h1]; rfl
      · have hr := (hI.rep c _ (hl _ _ hg))
        simp only [GRep] at hr
        have hr := hr.2
        simp only [Rep] at hr
        rcases hr with ⟨_, _, h2⟩ | ⟨_, b2, o2, c2, h2, _, _, h3⟩ | ⟨_, _, A, h2⟩
        · rw [e1] at h2; simp at h2
        rotate_left
        · rw [e1] at h2; simp at h2; omega
        · rw [e1] at h2
          simp at h2
          obtain ⟨⟨rfl, rfl⟩, hm, _⟩ := h2
          have hlt : lo + n.toNat < y.2.length := by omega
          obtain ⟨hS, c', hc1, hc2, hc3⟩ := h3 (lo + n.toNat) (y.2.getD (lo + n.toNat) (dflt t)) (by simp [List.getD, hlt])
          rw [VR_cell rfl]
          simp only [CRep]
          refine ⟨b, _, c', rfl, hS, ?_, hc3⟩
          rw [e3, Nat.add_assoc, ← Nat.add_mul]
          exact hc2
    · simp [M.run] at he
  · simp [M.run] at he
end
end Go.Rf

namespace Go.Rf

section
variable {P : Program} {H : Hints} {w : World} {S : Nat → Prop} {hv : Nat → Value} {F : Nat → Nat → Prop} {g gl : Look}

theorem bounds_run {lo hi : Option Int} {len : Nat} {k : Nat → Nat → Eff} {e : Eff} (h : (bounds lo hi len k).run = some e) :
    ∃ l r : Nat, e = k l r ∧ l ≤ r ∧ r ≤ len ∧ (∀ x, lo = some x → x = (l : Int)) ∧ (lo = none → l = 0) ∧ (∀ x, hi = some x → x = (r : Int)) ∧ (hi = none → r = len) := by
  unfold bounds at h
  split at h
  · simp [M.run] at h; exact ⟨0, len, h.symm, by omega, by omega, by simp, by simp, by simp, by simp⟩
  · rename_i l
    simp only [M.run] at h
    by_cases h1 : 0 ≤ l
    · by_cases h2 : l ≤ len
      · simp [h1, h2, M.run] at h; exact ⟨l.toNat, len, h.symm, by omega, by omega, by simp; omega, by simp, by simp, by simp⟩
      · simp [h1, h2, M.run] at h
    · simp [h1, M.run] at h
  · rename_i r
    simp only [M.run] at h
    by_cases h1 : 0 ≤ r
    · by_cases h2 : r ≤ len
      · simp [h1, h2, M.run] at h; exact ⟨0, r.toNat, h.symm, by omega, by omega, by simp, by simp, by simp; omega, by simp⟩
      · simp [h1, h2, M.run] at h
    · simp [h1, M.run] at h
  · rename_i l r
    simp only [M.run] at h
    by_cases h1 : 0 ≤ r
    · by_cases h2 : r ≤ len
      · by_cases h3 : 0 ≤ l
        · by_cases h4 : l ≤ r
          · simp [h1, h2, h3, h4, M.run] at h; exact ⟨l.toNat, r.toNat, h.symm, by omega, by omega, by simp; omega, by simp, by simp; omega, by simp⟩
          · simp [h1, h2, h3, h4, M.run] at h
        · simp [h1, h2, h3, M.run] at h
      · simp [h1, h2, M.run] at h
    · simp [h1, M.run] at h

/-- the operands of a slice expression's bounds -/
def BVal (x : Option Value) (y : Option Int) : Prop := match x, y with
  | none, none => True
  | some v, some n => ∃ k, v = .int k n
  | _, _ => False

theorem run_sliceAt (hf : Fit P H) {T : Nat} {u : Ty} (hT : H.ty T = some (.sl u)) {a : Option Addr} {len cap : Nat} (hc : len ≤ cap) {lo hi : Option Value} {x y : Option Int} (hlo : BVal lo x) (hhi : BVal hi y) {l r : Nat} (hlr : l ≤ r) (hr : r ≤ len)
    (h1 : ∀ z, x = some z → z = (l : Int)) (h2 : x = none → l = 0) (h3 : ∀ z, y = some z → z = (r : Int)) (h4 : y = none → r = len) :
    (Instr.sliceAt T (.slice a len cap) lo hi none).run P w = .ok (.slice (if cap = l then a else a.map (·.add (l * size u))) (r - l) (cap - l)) w := by
  obtain ⟨E, hu, hE⟩ := (hf.ty T _ hT).under
  obtain ⟨i, z, h5, h6, _⟩ := (hf.ty E _ hE).info
  have hb : (Instr.sliceBounds true len cap lo hi none).run P w = .ok (l, r, cap) w := by
    unfold Instr.sliceBounds
    cases hi with
    | none =>
      cases y with
      | some _ => exact hhi.elim
      | none =>
        have := h4 rfl; subst this
        cases lo with
        | none =>
          cases x with
          | some _ => exact hlo.elim
          | none => have := h2 rfl; subst this; simp
        | some v =>
          cases x with
          | none => exact hlo.elim
          | some n =>
            obtain ⟨k, rfl⟩ := hlo
            have := h1 n rfl; subst this
            have hl : l ≤ r := hlr
            simp [Instr.sliceBound, asIntOf, hl]
    | some v =>
      cases y with
      | none => exact hhi.elim
      | some n =>
        obtain ⟨k, rfl⟩ := hhi
        have := h3 n rfl; subst this
        have hrc : r ≤ cap := Nat.le_trans hr hc
        cases lo with
        | none =>
          cases x with
          | some _ => exact hlo.elim
          | none => have := h2 rfl; subst this; simp [Instr.sliceBound, asIntOf, hrc]
        | some v =>
          cases x with
          | none => exact hlo.elim
          | some n =>
            obtain ⟨k', rfl⟩ := hlo
            have := h1 n rfl; subst this
            simp [Instr.sliceBound, asIntOf, hrc, hlr]
  unfold Instr.sliceAt
  simp only [Sem.run_bind, run_underlying hu, Result.andThen_ok, Instr.slice, hb, run_sizeOf h5, h6, Sem.run_pure]

theorem slice_sound (hf : Fit P H) (hI : Inv w S hv F g) (hl : ∀ c r, gl c = some r → g c = some r) (o : Oper) (ρ : Operand → Value) (T : Nat) (x : Operand) (lo hi : Option Operand) (ho : o.op = .slice T x lo hi none) {u : Ty} (hT : H.ty T = some (.sl u)) {a : SV} (hx : VR w S hv g a (ρ x))
    {lx hx' : Option Int} (hlo : BVal (lo.map ρ) lx) (hhi : BVal (hi.map ρ) hx') {e : Eff} (he : (sliceE u gl a lx hx').run = some e) :
    Res P ((execOp ρ o).run P w) (Out w S hv F g e) := by
  have hex : (execOp ρ o).run P w = ((Instr.sliceAt T (ρ x) (lo.map ρ) (hi.map ρ) none).run P w).andThen fun v w' => .ok (.value v) w' := by
    unfold execOp; simp [ho]
  -- shared data
  have hshared : ∀ (y : Den (.sl u)) (v : Value) (l r : Nat), Rep w S false (.sl u) y [v] → v = ρ x → l ≤ r → r ≤ y.2.length → (∀ z, lx = some z → z = (l : Int)) → (lx = none → l = 0) → (∀ z, hx' = some z → z = (r : Int)) → (hx' = none → r = y.2.length) →
      Res P ((execOp ρ o).run P w) (Out w S hv F g ⟨.v (.sl u) (y.1, (y.2.take r).drop l), []⟩) := by
    intro y v l r hr hv' hlr hrl h1 h2 h3 h4
    subst hv'
    obtain ⟨ad, cap, e1, e2, e3, e4⟩ := (hdrS_of hr).len
    refine Res_value (v := .slice (if cap = l then ad else ad.map (·.add (l * size u))) (r - l) (cap - l)) ?_ (Out.same hI ?_)
    · rw [hex, e1, run_sliceAt hf hT e3 hlo hhi hlr hrl h1 h2 h3 h4]; rfl
    · rw [VR_v rfl]
      simp only [Rep] at hr ⊢
      rcases hr with ⟨g1, g2, g3⟩ | ⟨g0, b, o', cap', g1, g2, g3, g4⟩ | ⟨g0, g2, A, g3⟩
      · left
        rw [g2] at hrl
        simp at hrl
        have : l = 0 := by omega
        subst this hrl
        rw [e1] at g3
        simp at g3
        obtain ⟨rfl, _, rfl⟩ := g3
        simp [g1, g2]
      rotate_left
      · right; right
        rw [g2] at hrl
        simp at hrl
        have : l = 0 := by omega
        subst this hrl
        rw [e1] at g3
        simp at g3
        obtain ⟨rfl, _, rfl⟩ := g3
        exact ⟨g0, by simp [g2], A, by simp⟩
      · right; left
        rw [e1] at g1
        simp at g1
        obtain ⟨rfl, rfl⟩ := g1
        have hlen : ((y.2.take r).drop l).length = r - l := by simp; omega
        by_cases hcl : cap = l
        · refine ⟨g0, b, o', cap - l, by simp [hcl, hlen], by rw [hlen]; omega, by rw [hlen]; omega, ?_⟩
          intro i z hz
          exfalso
          have := (List.getElem?_eq_some_iff.1 hz).1
          rw [hlen] at this
          omega
        · refine ⟨g0, b, o' + l * size u, cap - l, by simp [hcl, hlen, Addr.add_none], by rw [hlen]; omega, by rw [hlen]; omega, ?_⟩
          intro i z hz
          rw [List.getElem?_drop, List.getElem?_take] at hz
          split at hz
          · obtain ⟨k1, c, k2, k3, k4⟩ := g4 _ _ hz
            exact ⟨k1, c, k2, by rw [Nat.add_assoc, ← Nat.add_mul]; exact k3, k4⟩
          · cases hz
  unfold sliceE at he
  split at he
  · rename_i t y
    split at he <;> try (simp [M.run] at he; done)
    rename_i htu
    have htu := of_decide_eq_true htu
    subst htu
    obtain ⟨l, r, rfl, h1, h2, h3, h4, h5, h6⟩ := bounds_run he
    rw [VR_v rfl] at hx
    exact hshared y _ l r hx rfl h1 h2 h3 h4 h5 h6
  · rename_i c
    have hval := ref_val hx
    have hc : g c ≠ none := by rw [VR_cell rfl] at hx; simp only [CRep] at hx; exact hx.1
    split at he
    · rename_i t dp m xs hg
      split at he <;> try (simp [M.run] at he; done)
      rename_i htu
      have htu := of_decide_eq_true htu
      subst htu
      obtain ⟨l, r, rfl, h1, h2, h3, h4, h5, h6⟩ := bounds_run he
      have hrow := hI.rep c _ (hl _ _ hg)
      simp only [GRep] at hrow
      obtain ⟨ad, cap, e1, e2, e3, e4⟩ := (hdr_row hI (hl _ _ hg)).len
      refine Res_value (v := .slice (if cap = l then ad else ad.map (·.add (l * size t))) (r - l) (cap - l)) ?_ (Out.same hI ?_)
      · rw [hex, hval, e1, run_sliceAt hf hT e3 hlo hhi h1 h2 h3 h4 h5 h6]; rfl
      · rw [VR_cell rfl]
        simp only [CRep]
        refine ⟨hc, _, rfl, ?_⟩
        rcases hrow with ⟨g1, g2, g3⟩ | ⟨g0, b, o', cap', arr, T', G, g1, g2, g3, g4, g5, _⟩
        · left
          rw [g2] at h2
          simp at h2
          have hl0 : l = 0 := by omega
          rw [e1] at g3
          simp at g3
          obtain ⟨rfl, _, rfl⟩ := g3
          subst hl0 h2
          exact ⟨by rw [e1, g2]; rfl, by simp, rfl, rfl⟩
        · right
          rw [e1] at g1
          simp at g1
          obtain ⟨rfl, rfl⟩ := g1
          by_cases hcl : cap = l
          · refine ⟨b, o', xs.length, cap, o', e1, by simp [hcl], h1, h2, g2, g3, by omega, ?_⟩
            subst hcl; simp
          · refine ⟨b, o', xs.length, cap, o' + l * size t, e1, by simp [hcl, Addr.add_none], h1, h2, g2, g3, fun _ => rfl, ?_⟩
            have : l ≤ cap := by omega
            rw [Nat.add_assoc, ← Nat.add_mul, Nat.add_sub_cancel' this]
            exact Nat.le_refl _
    · rename_i t y hg
      split at he <;> try (simp [M.run] at he; done)
      rename_i htu
      have htu := of_decide_eq_true htu
      subst htu
      obtain ⟨l, r, rfl, h1, h2, h3, h4, h5, h6⟩ := bounds_run he
      have hr := hI.rep c _ (hl _ _ hg)
      simp only [GRep] at hr
      exact hshared y _ l r hr.2 hval.symm h1 h2 h3 h4 h5 h6
    · simp [M.run] at he
  · rename_i c sz p q
    rw [VR_cell rfl] at hx
    simp only [CRep] at hx
    obtain ⟨hc, v, hv1, hsub⟩ := hx
    have hv1 : v = ρ x := by simpa using hv1.symm
    subst hv1
    split at he
    · rename_i t dp m xs hg
      split at he <;> try (simp [M.run] at he; done)
      rename_i htu hsz
      have htu := of_decide_eq_true htu
      subst htu
      have hsz : sz = size t := by simpa using hsz
      subst hsz
      obtain ⟨l, r, rfl, h1, h2, h3, h4, h5, h6⟩ := bounds_run he
      rcases hsub with ⟨e1, e2, rfl, rfl⟩ | ⟨b, o1, n, cap, o', e1, e2, e3, e4, e5, e6, e7, e8⟩
      · have hr0 : r = 0 := by omega
        have hl0 : l = 0 := by omega
        subst hr0 hl0
        refine Res_value (v := .slice none 0 0) ?_ (Out.same hI ?_)
        · rw [hex, e2, run_sliceAt hf hT (Nat.le_refl _) hlo hhi (l := 0) (r := 0) (by omega) (by omega) h3 h4 h5 (by simpa using h6)]; simp
        · rw [VR_cell rfl]
          simp only [CRep]
          exact ⟨hc, _, rfl, .inl ⟨e1, rfl, rfl, rfl⟩⟩
      · refine Res_value (v := .slice (if cap - p = l then some ⟨b, o', none⟩ else (some (⟨b, o', none⟩ : Addr)).map (·.add (l * size t))) (r - l) (cap - p - l)) ?_ (Out.same hI ?_)
        · rw [hex, e2, run_sliceAt hf hT (by omega) hlo hhi h1 h2 h3 h4 h5 h6]; rfl
        · rw [VR_cell rfl]
          simp only [CRep]
          refine ⟨hc, _, rfl, .inr ?_⟩
          by_cases hcl : cap - p = l
          · refine ⟨b, o1, n, cap, o', e1, by simp [hcl]; omega, by omega, by omega, e5, e6, by omega, ?_⟩
            have : cap - (p + l) = 0 := by omega
            rw [this]
            have : cap - p ≥ 0 := by omega
            have h9 : o' ≤ o' + (cap - p) * size t := Nat.le_add_right _ _
            omega
          · refine ⟨b, o1, n, cap, o' + l * size t, e1, by simp [hcl, Addr.add_none]; omega, by omega, by omega, e5, e6, ?_, ?_⟩
            · intro h9
              rw [e7 (by omega), Nat.add_assoc, ← Nat.add_mul]
            · have h9 : l + (cap - (p + l)) = cap - p := by omega
              rw [Nat.add_assoc, ← Nat.add_mul, h9]
              exact e8
    · simp [M.run] at he
  · simp [M.run] at he
end
end Go.Rf

namespace Go.Rf

theorem zcells_length : ∀ t, (zcells t).length = size t := by
  intro t
  induction t with
  | pair a b iha ihb => simp [zcells, size, iha, ihb]
  | one a ih => simpa [zcells, size] using ih
  | _ => simp [zcells, size]

theorem zcells_one : ∀ t, ∀ v ∈ zcells t, v.oneCell' = true := by
  intro t
  induction t with
  | pair a b iha ihb =>
    intro v hv
    simp only [zcells, List.mem_append] at hv
    rcases hv with hv | hv
    · exact iha v hv
    · exact ihb v hv
  | one a ih => simpa [zcells] using ih
  | _ => intro v hv; simp [zcells] at hv; try (subst hv; rfl)

section
variable {P : Program} {H : Hints} {w : World} {S : Nat → Prop} {hv : Nat → Value} {F : Nat → Nat → Prop} {g gl : Look}

theorem DRep_dflt (G : Nat → Prop) : ∀ t, plain t = true → DRep w t (dflt t) G (zcells t) := by
  intro t
  induction t generalizing G with
  | int k => intro _; simp only [DRep, dflt, zcells]; exact ⟨trivial, by cases k <;> decide, by cases k <;> decide⟩
  | bool => intro _; simp only [DRep, dflt, zcells]
  | nil => intro _; simp only [DRep, dflt, zcells]
  | one a ih => intro h; exact ih G h
  | pair a b iha ihb =>
    intro h
    simp only [plain, Bool.and_eq_true] at h
    simp only [DRep, dflt, zcells]
    exact ⟨_, _, fun _ => False, fun _ => False, rfl, fun _ h => h.elim, fun _ h => h.elim, fun _ h => h.elim, iha _ h.1, ihb _ h.2⟩
  | sl t ih => intro _; simp only [DRep, dflt, zcells]; exact ⟨_, rfl, .inl ⟨rfl, rfl, rfl⟩⟩
  | fn f c ih => intro h; simp [plain] at h
  | hsl t ih => intro h; simp [plain] at h

theorem Rep_dflt (t : Ty) (h : plain t = true) : Rep w S false t (dflt t) (zcells t) := DRep_Rep t _ (fun _ => False) _ (fun _ h => h.elim) (DRep_dflt _ t h)

/-! ### parts laid into cells -/
theorem foldl_set (vs : List Value) : ∀ (off k : Nat) (cs : Array Value), off + k + vs.length ≤ cs.size →
    (vs.zipIdx k).foldl (fun (cs : Array Value) (x : Value × Nat) => cs.setIfInBounds (off + x.2) x.1) cs = (cs.toList.take (off + k) ++ (vs ++ cs.toList.drop (off + k + vs.length))).toArray := by
  induction vs with
  | nil => intro off k cs h; apply Array.ext'; simp
  | cons v vs ih =>
    intro off k cs h
    simp only [List.length_cons] at h
    simp only [List.zipIdx_cons, List.foldl_cons]
    rw [ih off (k + 1) _ (by simp; omega)]
    apply Array.ext'
    simp only [Array.toList_setIfInBounds]
    apply List.ext_getElem?
    intro j
    simp only [List.getElem?_append, List.length_take, List.length_set, Array.length_toList, List.getElem?_take, List.getElem?_set, List.getElem?_drop, List.length_cons]
    have e1 : min (off + (k + 1)) cs.size = off + k + 1 := by omega
    have e2 : min (off + k) cs.size = off + k := by omega
    rw [e1, e2]
    by_cases h1 : j < off + k
    · simp [h1, show j < off + k + 1 by omega, show j < off + (k + 1) by omega, show ¬ (off + k = j) by omega]
    · by_cases h2 : j = off + k
      · subst h2
        simp
        omega
      · have h3 : ¬ j < off + k + 1 := by omega
        simp only [h1, h3, if_false]
        have e3 : j - (off + k) = (j - (off + k + 1)) + 1 := by omega
        rw [e3]
        simp only [List.getElem?_cons_succ, List.length_cons]
        by_cases h4 : j - (off + k + 1) < vs.length
        · simp [h4]
        · simp only [h4, if_false, show ¬ (j - (off + k + 1) + 1 < vs.length + 1) by omega]
          have e4 : off + (k + 1) + vs.length + (j - (off + k + 1) - vs.length) = off + k + (vs.length + 1) + (j - (off + k + 1) + 1 - (vs.length + 1)) := by omega
          rw [e4]
          rw [if_neg (by omega)]

theorem fill_one {place : Nat → Option (Nat × Nat)} {cells : Array Value} {i off sz : Nat} {v : Value} {rest : List (Nat × Value)} {cs : List Value} (hp : place i = some (off, sz)) (hc : v.cells.toList = cs) (hl : cs.length = sz) (hs : off + sz ≤ cells.size) :
    Instr.fill place cells ((i, v) :: rest) = Instr.fill place (cells.toList.take off ++ (cs ++ cells.toList.drop (off + sz))).toArray rest := by
  have hz : v.cells.size = sz := by rw [← hl, ← hc]; simp
  rw [Instr.fill, hp]
  simp only [hz, ne_eq, not_true_eq_false, decide_false, Bool.false_or, Nat.not_lt.2 hs, gt_iff_lt, if_false, Bool.false_eq_true]
  congr 1
  have := foldl_set cs off 0 cells (by omega)
  simp only [Nat.add_zero] at this
  rw [hl] at this
  rw [← this, ← hc]
  have : v.cells.zipIdx = (v.cells.toList.zipIdx 0).toArray := by apply Array.ext'; simp
  rw [this]
  simp

theorem run_mapM_list {α β : Type} (f : α → Sem β) (r : α → β) : ∀ l : List α, (∀ x ∈ l, (f x).run P w = .ok (r x) w) → (l.mapM f).run P w = .ok (l.map r) w
  | [], _ => by simp
  | a :: l, h => by simp [h a (by simp), run_mapM_list f r l fun x hx => h x (by simp [hx])]

theorem run_mapM {α β : Type} (f : α → Sem β) (r : α → β) (l : Array α) (h : ∀ x ∈ l.toList, (f x).run P w = .ok (r x) w) : (l.mapM f).run P w = .ok (l.map r) w := by
  rw [Array.mapM_eq_mapM_toList]
  simp only [Sem.run_map, run_mapM_list f r l.toList h, Result.andThen_ok]
  rw [show (l.toList.map r).toArray = l.map r from Array.ext' (by simp)]

theorem run_places (hf : Fit P H) {T : Nat} {t : Ty} (ht : H.ty T = some t) {i0 : Nat} {r0 : List Step × Ty} (h0 : fpath t (H.nf T) i0 = some r0) :
    ∃ fs, P.underlying T = some (.struct fs) ∧ ∃ places : Array (Nat × Nat), ((fs.mapM fun f => do pure (f.offset, ← sizeOf f.type) : Sem (Array (Nat × Nat))).run P w = .ok places w) ∧
      ∀ i q u, fpath t (H.nf T) i = some (q, u) → places[i]? = some (pathOff q, size u) := by
  have hu := (hf.ty T t ht).under
  unfold UFit at hu
  split at hu
  · simp [fpath] at h0
  · simp [fpath] at h0
  · simp [fpath] at h0
  · exact hu.elim
  · exact hu.elim
  · have hu : SFit P H T t := hu.elim id fun ha => by
      rw [ha.1] at h0
      cases t <;> simp [fpath] at h0
    obtain ⟨_, fs, h1, h2, _, h3⟩ := hu
    have hsz : ∀ f ∈ fs.toList, ∃ u, H.ty f.type = some u := by
      intro f hfm
      obtain ⟨i, hi⟩ := List.getElem?_of_mem hfm
      obtain ⟨q, u, _, _, h4, _⟩ := h3 i f (by simpa using hi)
      exact ⟨u, h4⟩
    refine ⟨fs, h1, _, run_mapM (P := P) (w := w) _ (fun f => (f.offset, match H.ty f.type with
      | some u => size u
      | none => 0)) fs ?_, ?_⟩
    · intro f hfm
      obtain ⟨u, h4⟩ := hsz f hfm
      obtain ⟨i, z, h5, h6, _⟩ := (hf.ty _ _ h4).info
      simp [run_sizeOf h5, h4, h6]
    · intro i q u h
      have hlt := fpath_lt _ _ _ _ h
      rw [← h2] at hlt
      obtain ⟨q', u', h4, h5, h6, _⟩ := h3 i fs[i] (Array.getElem?_eq_getElem hlt)
      rw [h] at h4
      simp at h4
      obtain ⟨rfl, rfl⟩ := h4
      simp [Array.getElem?_eq_getElem hlt, h5, h6]

/-- the parts, one after the other -/
theorem fill_parts {place : Nat → Option (Nat × Nat)} {t : Ty} {n : Nat} (hp : ∀ i q u, fpath t n i = some (q, u) → place i = some (pathOff q, size u)) :
    ∀ (ps : List (Nat × Operand)) (as : List SV) (ρ : Operand → Value) (a b : SV) (cs : List Value), as.length = ps.length → All2 (fun x v => VR w S hv g x v) as (ps.map fun p => ρ p.2) →
      CRep w S hv g false a cs → buildParts t n (parts ps as) a = some b → ∃ cs', Instr.fill place cs.toArray (ps.map fun p => (p.1, ρ p.2)) = some cs'.toArray ∧ CRep w S hv g false b cs'
  | [], [], ρ, a, b, cs, _, _, ha, hb => by
    simp [parts, buildParts] at hb
    subst hb
    exact ⟨cs, by simp [Instr.fill], ha⟩
  | (i, x) :: ps, y :: as, ρ, a, b, cs, hlen, h2, ha, hb => by
    simp only [parts, buildParts] at hb
    split at hb <;> try (cases hb; done)
    rename_i q u hq
    split at hb <;> try (cases hb; done)
    rename_i hag
    split at hb <;> try (cases hb; done)
    rename_i a' hset
    cases h2 with
    | cons hy h2' =>
      have hy' : VR w S hv g (asField y u) (ρ x) := by
        unfold asField
        split
        · rw [VR_cell rfl] at hy ⊢
          simp only [CRep, List.cons.injEq, and_true] at hy
          simp [CRep, Rep, hy]
        · exact hy
      obtain ⟨c, h3, h4, h5, h6⟩ := VR_cells (of_decide_eq_true hag) hy'
      obtain ⟨c1, c2, c3, rfl, h7, h8, h9⟩ := CRep_set _ _ _ _ _ _ hset ha h4
      obtain ⟨cs', h10, h11⟩ := fill_parts hp ps as ρ a' b _ (by simpa using hlen) h2' h9 hb
      refine ⟨cs', ?_, h11⟩
      simp only [List.map_cons]
      rw [fill_one (hp _ _ _ hq) h6 h5 (by simp [← h7, h8, h5])]
      rw [← h10]
      congr 1
      apply Array.ext'
      have e1 : pathOff q = c1.length := h7.symm
      have e2 : size u = c2.length := by rw [h8]; exact h5.symm
      simp [e1, e2, List.drop_append, List.take_append]

theorem build_sound (hf : Fit P H) (hI : Inv w S hv F g) (o : Oper) (ρ : Operand → Value) (T : Nat) (ps : Array (Nat × Operand)) (ho : o.op = .build T ps) {t : Ty} (hT : H.ty T = some t) (hag : isAgg t = true) {as : List SV} (hlen : as.length = ps.toList.length) (h2 : All2 (fun x v => VR w S hv g x v) as (ps.toList.map fun p => ρ p.2))
    {b : SV} (hb : buildParts t (H.nf T) (parts ps.toList as) (.v t (dflt t)) = some b) {n : Nat} (hbag : b.ag = some (true, n)) {i0 : Nat} {r0 : List Step × Ty} (h0 : fpath t (H.nf T) i0 = some r0) :
    Res P ((execOp ρ o).run P w) (Out w S hv F g ⟨b, []⟩) := by
  obtain ⟨fs, h1, places, h3, h4⟩ := run_places (P := P) (w := w) hf hT h0
  obtain ⟨i, z, h5, h6, _, h7, h8, _⟩ := (hf.ty T t hT).info
  obtain ⟨cs', h9, h10⟩ := fill_parts (place := (places[·]?)) h4 ps.toList as ρ (.v t (dflt t)) b (zcells t) hlen h2 (by simp only [CRep]; exact Rep_dflt t (hf.ty T t hT).plain) hb
  refine Res_value (v := .agg cs'.toArray) ?_ (Out.same hI (VR_of_cells hbag (.inl ⟨rfl, rfl⟩) h10))
  unfold execOp
  have hz : z.cells = (zcells t).toArray := by apply Array.ext'; simpa using h8
  have he : (ps.map fun x : Nat × Operand => (x.fst, ρ x.snd)).toList = ps.toList.map fun p => (p.1, ρ p.2) := by simp
  simp only [ho, Instr.build, Sem.run_bind, zeroValue, typeInfo, program, Sem.run, Result.andThen_ok, h5, Sem.run_pure, h7, run_underlying h1, h3, hz, he, h9]

theorem fpath_arr : ∀ i q u, fpath (.pair (.int .i64) (.int .i64)) 2 i = some (q, u) → (fun i : Nat => some (i * 1, 1)) i = some (pathOff q, size u) := by
  intro i q u h
  match i with
  | 0 => simp [fpath] at h; obtain ⟨rfl, rfl⟩ := h; rfl
  | 1 => simp [fpath] at h; obtain ⟨rfl, rfl⟩ := h; rfl
  | i + 2 => simp [fpath] at h

/-- an array of two whole numbers, out of its parts -/
theorem build_arr (hf : Fit P H) (hI : Inv w S hv F g) (o : Oper) (ρ : Operand → Value) (T : Nat) (ps : Array (Nat × Operand)) (ho : o.op = .build T ps) {t : Ty} (hT : H.ty T = some t) (ha : AFit P H T t) {as : List SV} (hlen : as.length = ps.toList.length) (h2 : All2 (fun x v => VR w S hv g x v) as (ps.toList.map fun p => ρ p.2))
    {b : SV} (hb : buildParts t 2 (parts ps.toList as) (.v t (dflt t)) = some b) {n : Nat} (hbag : b.ag = some (true, n)) :
    Res P ((execOp ρ o).run P w) (Out w S hv F g ⟨b, []⟩) := by
  obtain ⟨_, ht, _, E, h1, _, j, hj1, hj2⟩ := ha
  obtain ⟨i, z, h5, h6, _, h7, h8, _⟩ := (hf.ty T t hT).info
  obtain ⟨cs', h9, h10⟩ := fill_parts (place := fun i => some (i * 1, 1)) (t := t) (n := 2) (by rw [ht]; exact fpath_arr) ps.toList as ρ (.v t (dflt t)) b (zcells t) hlen h2 (by simp only [CRep]; exact Rep_dflt t (hf.ty T t hT).plain) hb
  refine Res_value (v := .agg cs'.toArray) ?_ (Out.same hI (VR_of_cells hbag (.inl ⟨rfl, rfl⟩) h10))
  unfold execOp
  have hz : z.cells = (zcells t).toArray := by apply Array.ext'; simpa using h8
  have he : (ps.map fun x : Nat × Operand => (x.fst, ρ x.snd)).toList = ps.toList.map fun p => (p.1, ρ p.2) := by simp
  simp only [ho, Instr.build, Sem.run_bind, zeroValue, typeInfo, program, Sem.run, Result.andThen_ok, h5, Sem.run_pure, h7, run_underlying h1, run_sizeOf hj1, hj2, hz, he, h9]
end
end Go.Rf

namespace Go.Rf

theorem nodupB_spec {l : List Nat} (h : nodupB l = true) : l.Nodup := by
  induction l with
  | nil => simp
  | cons a l ih =>
    simp only [nodupB, Bool.and_eq_true, Bool.not_eq_true'] at h
    rw [List.nodup_cons]
    refine ⟨fun hm => ?_, ih h.2⟩
    have := List.contains_iff_mem.2 hm
    rw [h.1] at this; cases this

/-- the footprints of some regions -/
def FL (F : Nat → Nat → Prop) (l : List Nat) (b : Nat) : Prop := ∃ k, k ∈ l ∧ F k b

section
variable {P : Program} {H : Hints} {w : World} {S S' : Nat → Prop} {hv : Nat → Value} {F : Nat → Nat → Prop} {g gl : Look}

theorem RowB_Rep {t : Ty} {dp n : Bool} {xs : List (Den t)} {Fc : Nat → Prop} {v : Value} (hS : ∀ b, S b → S' b) (hF : ∀ b, Fc b → S' b) (h : RowB w (ERep w S dp t) (size t) n xs Fc v) : Rep w S' false (.sl t) (n, xs) [v] := by
  simp only [Rep]
  rcases h with ⟨h1, h2, h3⟩ | ⟨h0, b, o, cap, arr, T, G, h1, h2, h3, h4, h5, h6, h7, h8, h9⟩
  · exact .inl ⟨h1, h2, by rw [h3]⟩
  · refine .inr (.inl ⟨h0, b, o, cap, by rw [h1], h2, h3, fun i e he => ?_⟩)
    obtain ⟨c, hl, hr, hc⟩ := h9 i e he
    refine ⟨hF _ h6, c, hl, hr, ?_⟩
    cases dp
    · exact Rep_mono (fun _ _ _ _ h => h) hS _ _ _ _ hc
    · exact DRep_Rep _ _ _ _ (fun b' hb' => hF _ (h7 i b' hb').1) hc

theorem holeAt_length {α : Type} (xs : List α) (i : Nat) : (holeAt xs i).length = xs.length := by simp [holeAt]

theorem holeAt_some {α : Type} {xs : List α} {i k : Nat} {e : α} (h : (holeAt xs i)[k]? = some (some e)) : k ≠ i ∧ xs[k]? = some e := by
  simp only [holeAt, List.getElem?_mapIdx] at h
  cases hx : xs[k]? with
  | none => simp [hx] at h
  | some y =>
    simp only [hx, Option.map_some, Option.some.injEq] at h
    cases hk : (k == i) with
    | true => simp [hk] at h
    | false =>
      simp only [hk, cond_false, Option.some.injEq] at h
      exact ⟨by simpa using hk, by rw [h]⟩

/-- a row one of whose places is lent, read without that place -/
theorem RowB_hole {t : Ty} {n : Bool} {xs : List (Den t)} {i : Nat} {L : Den t → (Nat → Prop) → List Value → Prop} {Fc : Nat → Prop} {v : Value} (hF : ∀ b, Fc b → S' b)
    (h : RowB w (fun (e : Nat × Den t) G cs => (e.1 ≠ i ∧ DRep w t e.2 G cs) ∨ (e.1 = i ∧ L e.2 G cs)) (size t) n (xs.zipIdx.map fun e => (e.2, e.1)) Fc v) : Rep w S' false (.hsl t) (n, holeAt xs i) [v] := by
  simp only [Rep]
  rcases h with ⟨h1, h2, h3⟩ | ⟨h0, b, o, cap, arr, T, G, h1, h2, h3, h4, h5, h6, h7, h8, h9⟩
  · have hx : xs = [] := by simpa using h2
    subst hx
    exact .inl ⟨h1, rfl, by rw [h3]⟩
  · simp only [List.length_map, List.length_zipIdx] at h1 h2 h3
    refine .inr ⟨h0, b, o, cap, by rw [h1, holeAt_length], by rw [holeAt_length]; exact h2, by rw [holeAt_length]; exact h3, fun k e he => ?_⟩
    obtain ⟨hk, hx⟩ := holeAt_some he
    obtain ⟨c, hl, hr, hc⟩ := h9 k (k, e) (by simp [hx])
    refine ⟨hF _ h6, c, hl, hr, ?_⟩
    rcases hc with ⟨_, hc⟩ | ⟨hc, _⟩
    · exact DRep_Rep _ _ _ _ (fun b' hb' => hF _ (h7 k b' hb').1) hc
    · exact absurd hc hk

theorem Rep_sub {t : Ty} {y : Den (.sl t)} {hc v : Value} {lo hi : Nat} (h : Rep w S false (.sl t) y [hc]) (hs : SubV hc (size t) lo hi v) : Rep w S false (.sl t) (y.1, (y.2.take hi).drop lo) [v] := by
  simp only [Rep] at h ⊢
  rcases h with ⟨h1, h2, h3⟩ | ⟨h0, b, o, cap, h1, h2, h3, h4⟩ | ⟨h0, h1, A, h2⟩
  · rcases hs with ⟨e1, e2, e3, e4⟩ | ⟨b', o', n, cap', o'', e1, _⟩
    · left; simp [h1, h2, e2]
    · simp [e1] at h3
  rotate_left
  · rcases hs with ⟨e1, _⟩ | ⟨b', o1, n, cap', o', e1, e2, e3, e4, e5, e6, e7, e8⟩
    · simp [e1] at h2
    · rw [e1] at h2
      simp at h2
      have h9 : hi = 0 := by omega
      have h10 : lo = 0 := by omega
      right; right
      refine ⟨h0, by simp [h1], ⟨b', o', none⟩, ?_⟩
      rw [e2, h9, h10, h2.2.2]
  · rcases hs with ⟨e1, _⟩ | ⟨b', o1, n, cap', o', e1, e2, e3, e4, e5, e6, e7, e8⟩
    · simp [e1] at h1
    · rw [e1] at h1
      simp at h1
      obtain ⟨⟨rfl, rfl⟩, rfl, rfl⟩ := h1
      right; left
      have hlen : ((y.2.take hi).drop lo).length = hi - lo := by simp; omega
      refine ⟨h0, _, o', _ - lo, by rw [e2, hlen], by rw [hlen]; omega, by rw [hlen]; omega, fun i e he => ?_⟩
      have hi' := (List.getElem?_eq_some_iff.1 he).1
      rw [hlen] at hi'
      rw [List.getElem?_drop, List.getElem?_take, if_pos (by omega)] at he
      obtain ⟨k1, c, k2, k3, k4⟩ := h4 _ _ he
      exact ⟨k1, c, k2, by rw [e7 (by omega), Nat.add_assoc, ← Nat.add_mul]; exact k3, k4⟩

theorem view0_sound (hI : Inv w S hv F g) (hl : ∀ c r, gl c = some r → g c = some r) : ∀ (a : SV) (d : D) (l : List Nat) (cs : List Value), view0 gl a = some (d, l) → (∀ b, S b → S' b) → (∀ b, FL F l b → S' b) → CRep w S hv g false a cs → Rep w S' false d.1 d.2 cs := by
  intro a
  induction a with
  | v t x =>
    intro d l cs h hS hF hc
    simp only [view0, Option.some.injEq, Prod.mk.injEq] at h
    obtain ⟨rfl, rfl⟩ := h
    simp only [CRep] at hc
    exact Rep_mono (fun _ _ _ _ h => h) hS _ _ _ _ hc
  | ref c =>
    intro d l cs h hS hF hc
    simp only [CRep] at hc
    simp only [view0] at h
    split at h <;> try (cases h; done)
    · rename_i t dp n xs hg
      simp only [Option.some.injEq, Prod.mk.injEq] at h
      obtain ⟨rfl, rfl⟩ := h
      have := hI.rep c _ (hl _ _ hg)
      simp only [GRep] at this
      rw [hc.2.2]
      exact RowB_Rep hS (fun b hb => hF b ⟨c, by simp, hb⟩) this
    · rename_i t n xs i dd hg
      simp only [Option.some.injEq, Prod.mk.injEq] at h
      obtain ⟨rfl, rfl⟩ := h
      have := hI.rep c _ (hl _ _ hg)
      simp only [GRep] at this
      rw [hc.2.2]
      exact RowB_hole (L := fun e G cs => Lent w t e [] G cs (hv dd)) (fun b hb => hF b ⟨c, by simp, hb⟩) this.2.2
    · rename_i t x hg
      simp only [Option.some.injEq, Prod.mk.injEq] at h
      obtain ⟨rfl, rfl⟩ := h
      have := hI.rep c _ (hl _ _ hg)
      simp only [GRep] at this
      rw [hc.2.2]
      exact Rep_mono (fun _ _ _ _ h => h) hS _ _ _ _ this.2
  | sub c sz lo hi =>
    intro d l cs h hS hF hc
    simp only [CRep] at hc
    obtain ⟨_, v, rfl, hs⟩ := hc
    simp only [view0] at h
    split at h <;> try (cases h; done)
    · rename_i t dp n xs hg
      split at h <;> try (cases h; done)
      rename_i hsz
      have hsz : sz = size t := by simpa using hsz
      subst hsz
      simp only [Option.some.injEq, Prod.mk.injEq] at h
      obtain ⟨rfl, rfl⟩ := h
      have := hI.rep c _ (hl _ _ hg)
      simp only [GRep] at this
      exact Rep_sub (RowB_Rep hS (fun b hb => hF b ⟨c, by simp, hb⟩) this) hs
    · rename_i t x hg
      split at h <;> try (cases h; done)
      rename_i hsz
      have hsz : sz = size t := by simpa using hsz
      subst hsz
      simp only [Option.some.injEq, Prod.mk.injEq] at h
      obtain ⟨rfl, rfl⟩ := h
      have := hI.rep c _ (hl _ _ hg)
      simp only [GRep] at this
      exact Rep_sub (Rep_mono (fun _ _ _ _ h => h) hS _ _ _ _ this.2) hs
  | one a ih =>
    intro d l cs h hS hF hc
    simp only [view0] at h
    split at h <;> try (cases h; done)
    rename_i d' l' h'
    simp only [Option.some.injEq, Prod.mk.injEq] at h
    obtain ⟨rfl, rfl⟩ := h
    simp only [CRep] at hc
    simp only [Rep]
    exact ih _ _ _ h' hS hF hc
  | pair a b iha ihb =>
    intro d l cs h hS hF hc
    simp only [view0] at h
    split at h <;> try (cases h; done)
    rename_i d1 l1 d2 l2 h1 h2
    simp only [Option.some.injEq, Prod.mk.injEq] at h
    obtain ⟨rfl, rfl⟩ := h
    simp only [CRep] at hc
    obtain ⟨c, e, rfl, h3, h4⟩ := hc
    simp only [Rep]
    exact ⟨c, e, rfl, iha _ _ _ h1 hS (fun b ⟨k, hk, hb⟩ => hF b ⟨k, List.mem_append_left _ hk, hb⟩) h3, ihb _ _ _ h2 hS (fun b ⟨k, hk, hb⟩ => hF b ⟨k, List.mem_append_right _ hk, hb⟩) h4⟩
  | _ => intro d l cs h; simp [view0] at h

/-- what lies behind a pointer -/
def Beh (w : World) (S : Nat → Prop) (t : Ty) (x : Den t) (v : Value) : Prop := ∃ b o c, v = .pointer (some ⟨b, o, none⟩) ∧ S b ∧ rd w b o c ∧ Rep w S false t x c

theorem Beh_get {t : Ty} {x : Den t} {v : Value} {q : List Step} {d : D} {b o : Nat} {c : List Value} (hS : S b) (hr : rd w b o c) (hc : Rep w S false t x c) (hd : Den.get t x q = some d) : Beh w S d.1 d.2 (.pointer (some ⟨b, o + pathOff q, none⟩)) := by
  obtain ⟨c1, c2, c3, rfl, h1, h2⟩ := Rep_get _ _ _ _ _ hd hc
  refine ⟨b, _, c2, rfl, hS, ?_, h2⟩
  rw [← h1]
  exact (rd_append.1 (rd_append.1 hr).2).1

theorem viewP0_sound (hI : Inv w S hv F g) (hl : ∀ c r, gl c = some r → g c = some r) (a : SV) (d : D) (l : List Nat) (v : Value) (h : viewP0 gl a = some (d, l)) (hS : ∀ b, S b → S' b) (hF : ∀ b, FL F l b → S' b) (hc : CRep w S hv g false a [v]) : Beh w S' d.1 d.2 v := by
  unfold viewP0 at h
  split at h
  · rename_i t x
    simp only [Option.some.injEq, Prod.mk.injEq] at h
    obtain ⟨rfl, rfl⟩ := h
    simp only [CRep] at hc
    obtain ⟨b, o, c, h1, h2, h3, h4⟩ := hc
    exact ⟨b, o, c, by simpa using h1, hS _ h2, h3, Rep_mono (fun _ _ _ _ h => h) hS _ _ _ _ h4⟩
  · rename_i c p
    simp only [CRep] at hc
    obtain ⟨hc0, hv1, hv2, hv3⟩ := hc
    have hv1 : v = adr (hv c) (pathOff p) := by simpa using hv1
    split at h
    · rename_i a' hg
      split at h <;> try (cases h; done)
      rename_i b' hb
      split at h <;> try (cases h; done)
      rename_i d' l' hv0
      simp only [Option.some.injEq, Prod.mk.injEq] at h
      obtain ⟨rfl, rfl⟩ := h
      have := hI.rep c _ (hl _ _ hg)
      simp only [GRep] at this
      obtain ⟨b, arr, T, h1, h2, h3, h4⟩ := this
      obtain ⟨c1, c2, c3, h5, h6, h7⟩ := CRep_get _ _ _ _ hb h4
      refine ⟨b, pathOff p, c2, by rw [hv1, h1]; simp [adr], hF b ⟨c, by simp, h3⟩, ?_, view0_sound hI hl _ _ _ _ hv0 hS (fun b ⟨k, hk, hb⟩ => hF b ⟨k, by simp [hk], hb⟩) h7⟩
      have hrd : rd w b 0 arr.toList := fun j u hj => by simpa [World.cell?, h2] using hj
      rw [h5] at hrd
      have := (rd_append.1 (rd_append.1 hrd).2).1
      rwa [h6, Nat.zero_add] at this
    · rename_i t x hg
      split at h <;> try (cases h; done)
      rename_i d' hd
      simp only [Option.some.injEq, Prod.mk.injEq] at h
      obtain ⟨rfl, rfl⟩ := h
      have := hI.rep c _ (hl _ _ hg)
      simp only [GRep] at this
      obtain ⟨b, cs, h1, h2, h3, h4⟩ := this
      have := Beh_get (v := v) (hS _ h2) h3 (Rep_mono (fun _ _ _ _ h => h) hS _ _ _ _ h4) hd
      rw [hv1, h1]
      simpa [adr] using this
    · rename_i t dp n xs hg
      split at h <;> try (cases h; done)
      rename_i i sz q _
      split at h <;> try (cases h; done)
      rename_i hsz
      have hsz : sz = size t := by simpa using hsz
      subst hsz
      split at h <;> try (cases h; done)
      rename_i d' hd
      simp only [Option.some.injEq, Prod.mk.injEq] at h
      obtain ⟨rfl, rfl⟩ := h
      have hi : i < xs.length := by
        simp only [PtrIn] at hv3
        exact hv3 _ (by simp [glen, hl _ _ hg, Rg.len])
      have := hI.rep c _ (hl _ _ hg)
      simp only [GRep] at this
      have := RowB_Rep hS (fun b hb => hF b ⟨c, by simp, hb⟩) this
      simp only [Rep] at this
      rcases this with ⟨_, e, _⟩ | ⟨_, b, o, cap, e1, _, _, e2⟩ | ⟨_, e, _⟩
      · rw [e] at hi; simp at hi
      rotate_left
      · rw [e] at hi; simp at hi
      · obtain ⟨k1, c', k2, k3, k4⟩ := e2 i (xs.getD i (dflt t)) (by simp [List.getD, hi])
        have := Beh_get (v := v) k1 k3 k4 hd
        have e1 : hv c = .slice (some ⟨b, o, none⟩) xs.length cap := by simpa using e1
        rw [hv1, e1]
        simpa [adr, pathOff, Step.off, Nat.add_assoc] using this
    · cases h
  · cases h

theorem viewC0_sound (hI : Inv w S hv F g) (hl : ∀ c r, gl c = some r → g c = some r) : ∀ (a : SV) (d : D) (l : List Nat) (vs : List Value), viewC0 gl a = some (d, l) → (∀ b, S b → S' b) → (∀ b, FL F l b → S' b) → CRep w S hv g true a vs → Rep w S' true d.1 d.2 vs := by
  intro a
  induction a with
  | unit =>
    intro d l vs h hS hF hc
    simp only [viewC0, Option.some.injEq, Prod.mk.injEq] at h
    obtain ⟨rfl, rfl⟩ := h
    simpa only [CRep, Rep] using hc
  | tup a b iha ihb =>
    intro d l vs h hS hF hc
    simp only [viewC0] at h
    split at h <;> try (cases h; done)
    rename_i d1 l1 d2 l2 h1 h2
    simp only [Option.some.injEq, Prod.mk.injEq] at h
    obtain ⟨rfl, rfl⟩ := h
    simp only [CRep] at hc
    obtain ⟨p, r, rfl, h3, h4⟩ := hc
    have h5 : CRep w S hv g false a [p] := by
      have hcell : a.isDead = false ∧ a.isSt = false := by
        unfold viewP0 at h1
        split at h1 <;> first | exact ⟨rfl, rfl⟩ | cases h1
      rcases h3 with h | ⟨h, _⟩ | ⟨_, h⟩
      · rw [hcell.1] at h; cases h
      · rw [hcell.2] at h; cases h
      · exact h
    obtain ⟨bb, o, c, e1, e2, e3, e4⟩ := viewP0_sound hI hl _ _ _ _ h1 hS (fun b ⟨k, hk, hb⟩ => hF b ⟨k, List.mem_append_left _ hk, hb⟩) h5
    subst e1
    simp only [Rep]
    exact ⟨bb, o, c, r, rfl, e2, e3, e4, ihb _ _ _ h2 hS (fun b ⟨k, hk, hb⟩ => hF b ⟨k, List.mem_append_right _ hk, hb⟩) h4⟩
  | _ => intro d l vs h; simp [viewC0] at h

theorem view1_sound (hI : Inv w S hv F g) (hl : ∀ c r, gl c = some r → g c = some r) (a : SV) (d : D) (l : List Nat) (cs : List Value) (h : view1 gl a = some (d, l)) (hS : ∀ b, S b → S' b) (hF : ∀ b, FL F l b → S' b) (hc : CRep w S hv g false a cs) : Rep w S' false d.1 d.2 cs := by
  unfold view1 at h
  split at h
  · rename_i f caps
    split at h <;> try (cases h; done)
    rename_i d' l' h'
    simp only [Option.some.injEq, Prod.mk.injEq] at h
    obtain ⟨rfl, rfl⟩ := h
    simp only [CRep] at hc
    obtain ⟨ps, rfl, h1⟩ := hc
    simp only [Rep]
    exact ⟨ps, rfl, viewC0_sound hI hl _ _ _ _ h' hS hF h1⟩
  · exact view0_sound hI hl _ _ _ _ h hS hF hc

theorem viewP_sound (hI : Inv w S hv F g) (hl : ∀ c r, gl c = some r → g c = some r) (a : SV) (d : D) (l : List Nat) (v : Value) (h : viewP gl a = some (d, l)) (hS : ∀ b, S b → S' b) (hF : ∀ b, FL F l b → S' b) (hc : CRep w S hv g false a [v]) : Beh w S' d.1 d.2 v := by
  unfold viewP at h
  split at h
  · rename_i t x
    simp only [Option.some.injEq, Prod.mk.injEq] at h
    obtain ⟨rfl, rfl⟩ := h
    simp only [CRep] at hc
    obtain ⟨b, o, c, h1, h2, h3, h4⟩ := hc
    exact ⟨b, o, c, by simpa using h1, hS _ h2, h3, Rep_mono (fun _ _ _ _ h => h) hS _ _ _ _ h4⟩
  · rename_i c p
    simp only [CRep] at hc
    obtain ⟨hc0, hv1, hv2, hv3⟩ := hc
    have hv1 : v = adr (hv c) (pathOff p) := by simpa using hv1
    split at h
    · rename_i a' hg
      split at h <;> try (cases h; done)
      rename_i b' hb
      split at h <;> try (cases h; done)
      rename_i d' l' hv0
      simp only [Option.some.injEq, Prod.mk.injEq] at h
      obtain ⟨rfl, rfl⟩ := h
      have := hI.rep c _ (hl _ _ hg)
      simp only [GRep] at this
      obtain ⟨b, arr, T, h1, h2, h3, h4⟩ := this
      obtain ⟨c1, c2, c3, h5, h6, h7⟩ := CRep_get _ _ _ _ hb h4
      refine ⟨b, pathOff p, c2, by rw [hv1, h1]; simp [adr], hF b ⟨c, by simp, h3⟩, ?_, view1_sound hI hl _ _ _ _ hv0 hS (fun b ⟨k, hk, hb⟩ => hF b ⟨k, by simp [hk], hb⟩) h7⟩
      have hrd : rd w b 0 arr.toList := fun j u hj => by simpa [World.cell?, h2] using hj
      rw [h5] at hrd
      have := (rd_append.1 (rd_append.1 hrd).2).1
      rwa [h6, Nat.zero_add] at this
    · rename_i t x hg
      split at h <;> try (cases h; done)
      rename_i d' hd
      simp only [Option.some.injEq, Prod.mk.injEq] at h
      obtain ⟨rfl, rfl⟩ := h
      have := hI.rep c _ (hl _ _ hg)
      simp only [GRep] at this
      obtain ⟨b, cs, h1, h2, h3, h4⟩ := this
      have := Beh_get (v := v) (hS _ h2) h3 (Rep_mono (fun _ _ _ _ h => h) hS _ _ _ _ h4) hd
      rw [hv1, h1]
      simpa [adr] using this
    · rename_i t dp n xs hg
      split at h <;> try (cases h; done)
      rename_i i sz q _
      split at h <;> try (cases h; done)
      rename_i hsz
      have hsz : sz = size t := by simpa using hsz
      subst hsz
      split at h <;> try (cases h; done)
      rename_i d' hd
      simp only [Option.some.injEq, Prod.mk.injEq] at h
      obtain ⟨rfl, rfl⟩ := h
      have hi : i < xs.length := by
        simp only [PtrIn] at hv3
        exact hv3 _ (by simp [glen, hl _ _ hg, Rg.len])
      have := hI.rep c _ (hl _ _ hg)
      simp only [GRep] at this
      have := RowB_Rep hS (fun b hb => hF b ⟨c, by simp, hb⟩) this
      simp only [Rep] at this
      rcases this with ⟨_, e, _⟩ | ⟨_, b, o, cap, e1, _, _, e2⟩ | ⟨_, e, _⟩
      · rw [e] at hi; simp at hi
      rotate_left
      · rw [e] at hi; simp at hi
      · obtain ⟨k1, c', k2, k3, k4⟩ := e2 i (xs.getD i (dflt t)) (by simp [List.getD, hi])
        have := Beh_get (v := v) k1 k3 k4 hd
        have e1 : hv c = .slice (some ⟨b, o, none⟩) xs.length cap := by simpa using e1
        rw [hv1, e1]
        simpa [adr, pathOff, Step.off, Nat.add_assoc] using this
    · cases h
  · cases h

theorem viewC_sound (hI : Inv w S hv F g) (hl : ∀ c r, gl c = some r → g c = some r) : ∀ (a : SV) (d : D) (l : List Nat) (vs : List Value), viewC gl a = some (d, l) → (∀ b, S b → S' b) → (∀ b, FL F l b → S' b) → CRep w S hv g true a vs → Rep w S' true d.1 d.2 vs := by
  intro a
  induction a with
  | unit =>
    intro d l vs h hS hF hc
    simp only [viewC, Option.some.injEq, Prod.mk.injEq] at h
    obtain ⟨rfl, rfl⟩ := h
    simpa only [CRep, Rep] using hc
  | tup a b iha ihb =>
    intro d l vs h hS hF hc
    simp only [viewC] at h
    split at h <;> try (cases h; done)
    rename_i d1 l1 d2 l2 h1 h2
    simp only [Option.some.injEq, Prod.mk.injEq] at h
    obtain ⟨rfl, rfl⟩ := h
    simp only [CRep] at hc
    obtain ⟨p, r, rfl, h3, h4⟩ := hc
    have h5 : CRep w S hv g false a [p] := by
      have hcell : a.isDead = false ∧ a.isSt = false := by
        unfold viewP at h1
        split at h1 <;> first | exact ⟨rfl, rfl⟩ | cases h1
      rcases h3 with h | ⟨h, _⟩ | ⟨_, h⟩
      · rw [hcell.1] at h; cases h
      · rw [hcell.2] at h; cases h
      · exact h
    obtain ⟨bb, o, c, e1, e2, e3, e4⟩ := viewP_sound hI hl _ _ _ _ h1 hS (fun b ⟨k, hk, hb⟩ => hF b ⟨k, List.mem_append_left _ hk, hb⟩) h5
    subst e1
    simp only [Rep]
    exact ⟨bb, o, c, r, rfl, e2, e3, e4, ihb _ _ _ h2 hS (fun b ⟨k, hk, hb⟩ => hF b ⟨k, List.mem_append_right _ hk, hb⟩) h4⟩
  | _ => intro d l vs h; simp [viewC] at h

theorem view_sound (hI : Inv w S hv F g) (hl : ∀ c r, gl c = some r → g c = some r) (a : SV) (d : D) (l : List Nat) (cs : List Value) (h : view gl a = some (d, l)) (hS : ∀ b, S b → S' b) (hF : ∀ b, FL F l b → S' b) (hc : CRep w S hv g false a cs) : Rep w S' false d.1 d.2 cs := by
  unfold view at h
  split at h
  · rename_i f caps
    split at h <;> try (cases h; done)
    rename_i d' l' h'
    simp only [Option.some.injEq, Prod.mk.injEq] at h
    obtain ⟨rfl, rfl⟩ := h
    simp only [CRep] at hc
    obtain ⟨ps, rfl, h1⟩ := hc
    simp only [Rep]
    exact ⟨ps, rfl, viewC_sound hI hl _ _ _ _ h' hS hF h1⟩
  · exact view0_sound hI hl _ _ _ _ h hS hF hc

/-- what is owned through and through -/
theorem toDeep_sound (hI : Inv w S hv F g) (hl : ∀ c r, gl c = some r → g c = some r) : ∀ (a : SV) (d : D) (l : List Nat) (cs : List Value), toDeep gl a = some (d, l) → l.Nodup → CRep w S hv g false a cs → DRep w d.1 d.2 (FL F l) cs := by
  intro a
  induction a with
  | v t x =>
    intro d l cs h _ hc
    simp only [toDeep] at h
    split at h <;> try (cases h; done)
    rename_i hf
    simp only [Option.some.injEq, Prod.mk.injEq] at h
    obtain ⟨rfl, rfl⟩ := h
    simp only [CRep] at hc
    exact Rep_flat_D _ _ _ hf hc
  | ref c =>
    intro d l cs h _ hc
    simp only [CRep] at hc
    simp only [toDeep] at h
    split at h <;> try (cases h; done)
    rename_i t dp n xs hg
    split at h <;> try (cases h; done)
    rename_i hf
    simp only [Option.some.injEq, Prod.mk.injEq] at h
    obtain ⟨rfl, rfl⟩ := h
    have := hI.rep c _ (hl _ _ hg)
    simp only [GRep] at this
    simp only [DRep]
    refine ⟨hv c, hc.2.2, RowB_mono (fun b hb => ⟨c, by simp, hb⟩) (fun _ _ => rfl) (fun e G cs hG he => ?_) this⟩
    cases dp
    · simp at hf
      exact Rep_flat_D _ _ _ hf he
    · exact he
  | one a ih =>
    intro d l cs h hn hc
    simp only [toDeep] at h
    split at h <;> try (cases h; done)
    rename_i d' l' h'
    simp only [Option.some.injEq, Prod.mk.injEq] at h
    obtain ⟨rfl, rfl⟩ := h
    simp only [CRep] at hc
    simp only [DRep]
    exact ih _ _ _ h' hn hc
  | pair a b iha ihb =>
    intro d l cs h hn hc
    simp only [toDeep] at h
    split at h <;> try (cases h; done)
    rename_i d1 l1 d2 l2 h1 h2
    simp only [Option.some.injEq, Prod.mk.injEq] at h
    obtain ⟨rfl, rfl⟩ := h
    simp only [CRep] at hc
    obtain ⟨c, e, rfl, h3, h4⟩ := hc
    rw [List.nodup_append] at hn
    simp only [DRep]
    exact ⟨c, e, FL F l1, FL F l2, rfl, fun b ⟨k, hk, hb⟩ => ⟨k, List.mem_append_left _ hk, hb⟩, fun b ⟨k, hk, hb⟩ => ⟨k, List.mem_append_right _ hk, hb⟩,
      fun b ⟨k, hk, hb⟩ ⟨k', hk', hb'⟩ => hn.2.2 _ hk _ hk' (hI.disj k k' b hb hb'), iha _ _ _ h1 hn.1 h3, ihb _ _ _ h2 hn.2.1 h4⟩
  | _ => intro d l cs h; simp [toDeep] at h

theorem toDeep_rows (hl : ∀ c r, gl c = some r → g c = some r) : ∀ (a : SV) (d : D) (l : List Nat), toDeep gl a = some (d, l) → ∀ k ∈ l, ∃ r, g k = some r ∧ gl k = some r ∧ r.owns = true := by
  intro a
  induction a with
  | v t x =>
    intro d l h
    simp only [toDeep] at h
    split at h <;> try (cases h; done)
    simp only [Option.some.injEq, Prod.mk.injEq] at h
    obtain ⟨rfl, rfl⟩ := h
    simp
  | ref c =>
    intro d l h
    simp only [toDeep] at h
    split at h <;> try (cases h; done)
    rename_i t dp n xs hg
    split at h <;> try (cases h; done)
    simp only [Option.some.injEq, Prod.mk.injEq] at h
    obtain ⟨rfl, rfl⟩ := h
    intro k hk
    simp at hk; subst hk
    exact ⟨_, hl _ _ hg, hg, rfl⟩
  | one a ih =>
    intro d l h
    simp only [toDeep] at h
    split at h <;> try (cases h; done)
    rename_i d' l' h'
    simp only [Option.some.injEq, Prod.mk.injEq] at h
    obtain ⟨rfl, rfl⟩ := h
    exact ih _ _ h'
  | pair a b iha ihb =>
    intro d l h
    simp only [toDeep] at h
    split at h <;> try (cases h; done)
    rename_i d1 l1 d2 l2 h1 h2
    simp only [Option.some.injEq, Prod.mk.injEq] at h
    obtain ⟨rfl, rfl⟩ := h
    intro k hk
    rcases List.mem_append.1 hk with hk | hk
    · exact iha _ _ h1 k hk
    · exact ihb _ _ h2 k hk
  | _ => intro d l h; simp [toDeep] at h
end
end Go.Rf

namespace Go.Rf

def reLook (g gl : Look) (d : Nat) (r : Rg) (gs fs : List Nat) : Look := fun c =>
  if c = d then some r else if c ∈ gs then some .gone else if c ∈ fs then some (frzOf gl c) else g c

theorem updReg_nil (g : Look) : updReg g [] = g := rfl
theorem updReg_cons (g : Look) (k : Nat) (r : Rg) (l : List (Nat × Rg)) (c : Nat) : updReg g ((k, r) :: l) c = if c = k then some r else updReg g l c := by
  simp only [updReg]
  by_cases h : c = k
  · simp [h]
  · have : (c == k) = false := by simpa using h
    simp [h, this]
theorem updReg_append (g : Look) (l m : List (Nat × Rg)) : updReg g (l ++ m) = updReg (updReg g m) l := by
  induction l with
  | nil => rfl
  | cons a l ih => funext c; obtain ⟨k, r⟩ := a; simp only [List.cons_append, updReg_cons, ih]
theorem updReg_gone (g : Look) (gs : List Nat) (c : Nat) : updReg g (gs.map fun c => (c, Rg.gone)) c = if c ∈ gs then some .gone else g c := by
  induction gs with
  | nil => simp [updReg]
  | cons a gs ih => simp only [List.map_cons, updReg_cons, ih, List.mem_cons]; by_cases h : c = a <;> simp [h]
theorem updReg_frozen (g gl : Look) (fs : List Nat) (c : Nat) : updReg g (frozen gl fs) c = if c ∈ fs then some (frzOf gl c) else g c := by
  unfold frozen
  induction fs with
  | nil => simp [updReg]
  | cons a fs ih => simp only [List.map_cons, updReg_cons, ih, List.mem_cons]; by_cases h : c = a <;> simp [h]

theorem updReg_re (g gl : Look) (d : Nat) (r : Rg) (gs fs : List Nat) : updReg g ((d, r) :: ((gs.map fun c => (c, Rg.gone)) ++ frozen gl fs)) = reLook g gl d r gs fs := by
  funext c
  simp only [updReg_cons, updReg_append, updReg_gone, updReg_frozen, reLook]

section
variable {P : Program} {H : Hints} {w w' : World} {S S' : Nat → Prop} {hv : Nat → Value} {F : Nat → Nat → Prop} {g gl : Look}

theorem freezeRg_owns (r : Rg) : (freezeRg gl r).owns = false := by
  cases r <;> simp only [freezeRg] <;> try rfl
  split <;> rfl

theorem freezeRg_len (r : Rg) : ∀ n, (freezeRg gl r).len = some n → r.len = some n := by
  intro n h
  cases r <;> simp only [freezeRg] at h <;> try (simpa [Rg.len] using h)
  split at h <;> simp [Rg.len] at h

theorem F_dead {c b : Nat} (hI : Inv w S hv F g) (h : g c = none) : ¬ F c b := fun hb => by
  obtain ⟨r, hr, _⟩ := hI.live c b hb
  rw [h] at hr; cases hr

theorem re_step (hI : Inv w S hv F g) (hl : ∀ c r, gl c = some r → g c = some r) {d : Nat} {r : Rg} {v : Value} {gs fs : List Nat} {Fd Q : Nat → Prop}
    (hdv : g d ≠ none → v = hv d) (hdl : ∀ n, g d ≠ none → r.len = some n → glen g d = some n) (hr : r.owns = true ∨ ∀ b, ¬ Fd b)
    (hd1 : d ∉ gs) (hd2 : d ∉ fs) (hgf : ∀ k, k ∈ gs → k ∈ fs → False)
    (hgs : ∀ k ∈ gs, g k ≠ none) (hfs : ∀ k ∈ fs, gl k ≠ none)
    (hsz : w.heap.size ≤ w'.heap.size) (hfr : ∀ b, b < w.heap.size → ¬ FL F (d :: gs) b → w'.heap[b]? = w.heap[b]?)
    (hFd : ∀ b, Fd b → (FL F (d :: gs) b ∨ w.heap.size ≤ b) ∧ b < w'.heap.size) (hQ : ∀ b, Q b → FL F (d :: gs) b ∧ ¬ Fd b)
    (hrep : Ext w S hv g w' (fun b => S b ∨ FL F fs b ∨ Q b) (fun c => if c = d then v else hv c) (reLook g gl d r gs fs) →
      GRep w' (fun b => S b ∨ FL F fs b ∨ Q b) (fun c => if c = d then v else hv c) (reLook g gl d r gs fs) (fun c b => if c = d then Fd b else if c ∈ gs then False else if c ∈ fs then False else F c b) d r) (hstill : Still w w' := by first | exact ⟨rfl, rfl, rfl, Nat.le_refl _⟩ | exact ⟨rfl, rfl, rfl, Nat.le_add_right _ _⟩ | assumption) :
    Step' w S hv F g w' (fun b => S b ∨ FL F fs b ∨ Q b) (fun c => if c = d then v else hv c) (fun c b => if c = d then Fd b else if c ∈ gs then False else if c ∈ fs then False else F c b) (reLook g gl d r gs fs) := by
  have hfrozen : ∀ c, c ∈ fs → ∃ r0, gl c = some r0 ∧ g c = some r0 := fun c hc => by
    obtain ⟨r0, h0⟩ := Option.ne_none_iff_exists'.1 (hfs c hc)
    exact ⟨r0, h0, hl _ _ h0⟩
  have hdisjf : ∀ c b, c ∈ fs → F c b → ¬ FL F (d :: gs) b := by
    rintro c b hc hb ⟨k, hk, hkb⟩
    have := hI.disj c k b hb hkb
    subst this
    rcases List.mem_cons.1 hk with rfl | hk
    · exact hd2 hc
    · exact hgf _ hk hc
  refine mkStep hI (fun c => c = d ∨ c ∈ gs ∨ c ∈ fs) ?_ ?_ hsz ?_ (fun b hb => .inl hb) ?_ ?_ ?_ ?_ ?_ ?_ ?_ ?_ ?_ ?_ ?_
  · intro c hc
    simp only [not_or] at hc
    simp [reLook, hc]
  · intro c hc
    simp only [not_or] at hc
    funext b
    simp [hc]
  · intro b hb hn
    refine hfr b hb ?_
    rintro ⟨k, hk, hkb⟩
    rcases List.mem_cons.1 hk with rfl | hk
    · exact hn _ (.inl rfl) hkb
    · exact hn _ (.inr (.inl hk)) hkb
  · intro c hc
    by_cases h : c = d
    · subst h; simp [hdv hc]
    · simp [h]
  · intro c hc hg
    unfold reLook
    rcases hc with rfl | hc | hc
    · simp
    · by_cases h : c = d <;> simp [h, hc]
    · by_cases h : c = d
      · simp [h]
      · by_cases h' : c ∈ gs <;> simp [h, h', hc]
  · intro c n hc hg hn
    unfold glen reLook at hn
    by_cases h : c = d
    · subst h; simp at hn; exact hdl n hg hn
    · simp only [h, if_false] at hn
      by_cases h' : c ∈ gs
      · simp [h', Rg.len] at hn
      · have hc' : c ∈ fs := by rcases hc with hc | hc | hc; exact absurd hc h; exact absurd hc h'; exact hc
        obtain ⟨r0, h0, h1⟩ := hfrozen c hc'
        simp only [h', if_false, hc', if_true, frzOf, h0] at hn
        simp only [glen, h1]
        exact freezeRg_len r0 n hn
  · intro hx c r' hc hr'
    by_cases h : c = d
    · subst h
      simp [reLook] at hr'
      subst hr'
      exact hrep hx
    · by_cases h' : c ∈ gs
      · simp [reLook, h, h'] at hr'
        subst hr'
        simp only [GRep]
      · have hc' : c ∈ fs := by rcases hc with hc | hc | hc; exact absurd hc h; exact absurd hc h'; exact hc
        obtain ⟨r0, h0, h1⟩ := hfrozen c hc'
        simp [reLook, h, h', hc', frzOf, h0] at hr'
        subst hr'
        have hg0 := hI.rep c r0 h1
        have hsame : ∀ b, F c b → w'.heap[b]? = w.heap[b]? := fun b hb => hfr b (hI.old c b hb) (hdisjf c b hc' hb)
        have hFS : ∀ b, F c b → (S b ∨ FL F fs b ∨ Q b) := fun b hb => .inr (.inl ⟨c, hc', hb⟩)
        unfold freezeRg
        split
        · rename_i t dp n xs
          simp only [GRep] at hg0 ⊢
          refine ⟨⟨t, rfl⟩, ?_⟩
          simp only [h, if_false]
          refine RowB_Rep (S := fun b => S b ∨ FL F fs b ∨ Q b) (dp := dp) (Fc := F c) (fun _ h => h) hFS (RowB_mono (fun _ h => h) hsame (fun e G cs hG he => ?_) hg0)
          cases dp
          · exact Rep_mono hx.keep hx.sub _ _ _ _ he
          · exact DRep_mono _ _ _ _ _ (fun _ h => h) (fun b hb => hsame b (hG b hb)) he
        · rename_i a
          split
          · rename_i d' hv0
            simp only [GRep] at hg0 ⊢
            obtain ⟨b, arr, T, e1, e2, e3, e4⟩ := hg0
            refine ⟨b, arr.toList, by simp [h, e1], hFS b e3, ?_, ?_⟩
            · intro j u hj
              simp only [Nat.zero_add, World.cell?, hsame b e3, e2]
              simpa using hj
            · have := view0_sound hI hl _ _ _ _ hv0 (fun _ h => h) (fun b ⟨k, hk, _⟩ => by cases hk) e4
              exact Rep_mono hx.keep hx.sub _ _ _ _ this
          · simp only [GRep]
        · simp only [GRep]
        · simp only [GRep]
        · rename_i h2 h3 h4 h5
          cases r0 with
          | map k v es => exact absurd rfl (h5 _ _ _)
          | row t dp n xs => exact absurd rfl (h2 _ _ _ _)
          | rowl t n xs i q d => exact absurd rfl (h4 _ _ _ _ _ _)
          | box a => exact absurd rfl (h3 _)
          | fz t x =>
            simp only [GRep] at hg0 ⊢
            exact ⟨hg0.1, by simpa [h] using Rep_mono hx.keep hx.sub _ _ _ _ hg0.2⟩
          | fzb t x =>
            simp only [GRep] at hg0 ⊢
            obtain ⟨b, cs, e1, e2, e3, e4⟩ := hg0
            exact ⟨b, cs, by simp [h, e1], .inl e2, rd_keep hx.keep e2 e3, Rep_mono hx.keep hx.sub _ _ _ _ e4⟩
          | gone => simp only [GRep]
  · intro c b hc hb
    by_cases h : c = d
    · subst h
      simp at hb
      rcases hr with hr | hr
      · exact ⟨r, by simp [reLook], hr⟩
      · exact absurd hb (hr b)
    · simp only [h, if_false] at hb
      by_cases h' : c ∈ gs
      · simp [h'] at hb
      · by_cases h'' : c ∈ fs
        · simp [h', h''] at hb
        · rcases hc with hc | hc | hc <;> contradiction
  · intro c b hc hb
    by_cases h : c = d
    · subst h
      simp at hb
      rcases (hFd b hb).1 with ⟨k, hk, hkb⟩ | h1
      · rcases List.mem_cons.1 hk with rfl | hk
        · exact .inl ⟨_, .inl rfl, hkb⟩
        · exact .inl ⟨k, .inr (.inl hk), hkb⟩
      · exact .inr h1
    · simp only [h, if_false] at hb
      by_cases h' : c ∈ gs
      · simp [h'] at hb
      · by_cases h'' : c ∈ fs
        · simp [h', h''] at hb
        · rcases hc with hc | hc | hc <;> contradiction
  · intro c b hc hb
    by_cases h : c = d
    · subst h
      simp at hb
      exact (hFd b hb).2
    · simp only [h, if_false] at hb
      by_cases h' : c ∈ gs
      · simp [h'] at hb
      · by_cases h'' : c ∈ fs
        · simp [h', h''] at hb
        · rcases hc with hc | hc | hc <;> contradiction
  · intro c c' b hc hc' hb hb'
    have key : ∀ c, (c = d ∨ c ∈ gs ∨ c ∈ fs) → (if c = d then Fd b else if c ∈ gs then False else if c ∈ fs then False else F c b) → c = d := by
      intro c hc hb
      by_cases h : c = d
      · exact h
      · simp only [h, if_false] at hb
        by_cases h' : c ∈ gs
        · simp [h'] at hb
        · by_cases h'' : c ∈ fs
          · simp [h', h''] at hb
          · rcases hc with hc | hc | hc <;> contradiction
    rw [key c hc hb, key c' hc' hb']
  · rintro b (hb | ⟨k, hk, hkb⟩ | hb)
    · exact .inl hb
    · exact .inr (.inl ⟨k, .inr (.inr hk), hkb⟩)
    · obtain ⟨k, hk, hkb⟩ := (hQ b hb).1
      rcases List.mem_cons.1 hk with rfl | hk
      · exact .inr (.inl ⟨_, .inl rfl, hkb⟩)
      · exact .inr (.inl ⟨k, .inr (.inl hk), hkb⟩)
  · rintro b (hb | ⟨k, hk, hkb⟩ | hb)
    · exact Nat.lt_of_lt_of_le (hI.sold b hb) hsz
    · exact Nat.lt_of_lt_of_le (hI.old k b hkb) hsz
    · obtain ⟨k, hk, hkb⟩ := (hQ b hb).1
      exact Nat.lt_of_lt_of_le (hI.old k b hkb) hsz
  · intro c b hc hb
    by_cases h : c = d
    · subst h
      simp at hb
      rintro (hs | ⟨k, hk, hkb⟩ | hq)
      · rcases (hFd b hb).1 with ⟨k, hk, hkb⟩ | h1
        · exact hI.shr k b hkb hs
        · exact absurd (hI.sold b hs) (Nat.not_lt.2 h1)
      · rcases (hFd b hb).1 with h1 | h1
        · exact hdisjf k b hk hkb h1
        · exact absurd (hI.old k b hkb) (Nat.not_lt.2 h1)
      · exact (hQ b hq).2 hb
    · simp only [h, if_false] at hb
      by_cases h' : c ∈ gs
      · simp [h'] at hb
      · by_cases h'' : c ∈ fs
        · simp [h', h''] at hb
        · rcases hc with hc | hc | hc <;> contradiction
end
end Go.Rf

namespace Go.Rf

section
variable {P : Program} {H : Hints} {w : World} {S : Nat → Prop} {hv : Nat → Value} {F : Nat → Nat → Prop} {g gl : Look}

theorem heap_alloc_at (w : World) (o : Obj) (b : Nat) : (w.alloc o).heap[b]? = if b = w.heap.size then some o else w.heap[b]? := by
  by_cases h : b = w.heap.size
  · subst h; rw [if_pos rfl]; show (w.heap.push o)[w.heap.size]? = _; simp
  · simp only [h, if_false]
    show (w.heap.push o)[b]? = _
    rw [Array.getElem?_push]
    simp [h]

theorem Res_world {r : Result Next} {v : Value} {w' : World} {Post : Value → World → Prop} (h : r = .ok (.value v) w') (hp : Post v w') : Res P r Post := by subst h; exact hp

/-- what is new has its step -/
theorem new_step (hI : Inv w S hv F g) (hl : ∀ c r, gl c = some r → g c = some r) {d : Nat} (hd : g d = none) {r : Rg} {v : Value} {gs fs : List Nat} {deep : Bool} {arr : Array Value} {T : Nat} {w' : World}
    (hw : w'.heap = (w.alloc (.cells arr T (0, 0))).heap) (hr : r.owns = true) (hgf : (gs ++ fs).Nodup) (hgs : ∀ k ∈ gs, g k ≠ none) (hfs : ∀ k ∈ fs, gl k ≠ none)
    (hrep : Ext w S hv g w' (fun b => S b ∨ FL F fs b ∨ (deep = false ∧ FL F gs b)) (fun c => if c = d then v else hv c) (reLook g gl d r gs fs) →
      w'.heap[w.heap.size]? = some (.cells arr T (0, 0)) → (∀ b, b < w.heap.size → w'.heap[b]? = w.heap[b]?) →
      GRep w' (fun b => S b ∨ FL F fs b ∨ (deep = false ∧ FL F gs b)) (fun c => if c = d then v else hv c) (reLook g gl d r gs fs) (fun c b => if c = d then (b = w.heap.size ∨ (deep = true ∧ FL F gs b)) else if c ∈ gs then False else if c ∈ fs then False else F c b) d r) (hstill : Still w w' := by first | exact ⟨rfl, rfl, rfl, Nat.le_refl _⟩ | exact ⟨rfl, rfl, rfl, Nat.le_add_right _ _⟩ | assumption) :
    Step' w S hv F g w' (fun b => S b ∨ FL F fs b ∨ (deep = false ∧ FL F gs b)) (fun c => if c = d then v else hv c) (fun c b => if c = d then (b = w.heap.size ∨ (deep = true ∧ FL F gs b)) else if c ∈ gs then False else if c ∈ fs then False else F c b) (reLook g gl d r gs fs) := by
  have hh : ∀ b, w'.heap[b]? = if b = w.heap.size then some (.cells arr T (0, 0)) else w.heap[b]? := fun b => by rw [hw, heap_alloc_at]
  have hsz : w'.heap.size = w.heap.size + 1 := by rw [hw]; simp
  rw [List.nodup_append] at hgf
  have hFd0 : ∀ b, FL F (d :: gs) b ↔ FL F gs b := fun b => by
    constructor
    · rintro ⟨k, hk, hkb⟩
      rcases List.mem_cons.1 hk with rfl | hk
      · exact absurd hkb (F_dead hI hd)
      · exact ⟨k, hk, hkb⟩
    · rintro ⟨k, hk, hkb⟩; exact ⟨k, List.mem_cons_of_mem _ hk, hkb⟩
  refine re_step hI hl (fun h => absurd hd h) (fun n h => absurd hd h) (.inl hr) (fun h => hgs d h hd) (fun h => ?_) (fun k h1 h2 => hgf.2.2 k h1 k h2 rfl) hgs hfs (by omega) ?_ ?_ ?_ ?_
  · obtain ⟨r0, h0⟩ := Option.ne_none_iff_exists'.1 (hfs d h)
    have := hl _ _ h0
    rw [hd] at this; cases this
  · intro b hb _
    rw [hh, if_neg (by omega)]
  · rintro b (hb | ⟨_, hb⟩)
    · exact ⟨.inr (by omega), by omega⟩
    · refine ⟨.inl ((hFd0 b).2 hb), ?_⟩
      obtain ⟨k, _, hkb⟩ := hb
      have := hI.old k b hkb
      omega
  · rintro b ⟨h1, h2⟩
    refine ⟨(hFd0 b).2 h2, ?_⟩
    rintro (h3 | ⟨h3, _⟩)
    · obtain ⟨k, _, hkb⟩ := h2
      have := hI.old k b hkb
      omega
    · rw [h1] at h3; cases h3
  · intro hx
    exact hrep hx (by rw [hh, if_pos rfl]) (fun b hb => by rw [hh, if_neg (by omega)])

theorem Out.mk {e : Eff} {v : Value} {w' : World} {S' : Nat → Prop} {hv' : Nat → Value} {F' : Nat → Nat → Prop} {g' : Look} (hu : updReg g e.upd = g') (hs : Step' w S hv F g w' S' hv' F' g') (hr : VR w' S' hv' g' e.val v) : Out w S hv F g e v w' :=
  ⟨S', hv', F', by rw [hu]; exact hs, by rw [hu]; exact hr⟩

theorem newBox_out (hI : Inv w S hv F g) {d : Nat} (hd : g d = none) {a : SV} {cs : List Value} (hc : CRep w S hv g false a cs) (T : Nat) : Out w S hv F g ⟨.ptr d [], [(d, .box a)]⟩ (.pointer (some ⟨w.heap.size, 0, none⟩)) (w.alloc (.cells cs.toArray T (0, 0))) := by
  have hs := new_step (gl := g) (r := .box a) (v := .pointer (some ⟨w.heap.size, 0, none⟩)) (gs := []) (fs := []) (deep := true) (arr := cs.toArray) (T := T) (w' := w.alloc (.cells cs.toArray T (0, 0))) hI (fun _ _ h => h) hd rfl rfl (by simp) (by simp) (by simp) (by
    intro hx h1 _
    simp only [GRep, if_true]
    exact ⟨w.heap.size, cs.toArray, T, rfl, h1, .inl rfl, CRep_mono hx _ _ _ hc⟩)
  refine Out.mk (updReg_re g g d _ [] []) hs ?_
  rw [VR_cell rfl]
  simp only [CRep, if_true]
  exact ⟨by simp [reLook], by simp [adr, pathOff], rfl, trivial⟩

theorem zero_run {T : Nat} {t : Ty} (hf : TFit P H T t) : ∃ z, (zeroValue T).run P w = .ok z w ∧ z.cells.toList = zcells t := by
  obtain ⟨i, z, h1, _, _, h2, h3, _⟩ := hf.info
  exact ⟨z, by simp [zeroValue, typeInfo, h1, h2], h3⟩

theorem alloc_sound (hf : Fit P H) (hI : Inv w S hv F g) (o : Oper) (ρ : Operand → Value) (E : Nat) (ho : o.op = .alloc E) {t : Ty} (hE : H.ty E = some t) {d : Nat} (hd : g d = none) :
    Res P ((execOp ρ o).run P w) (Out w S hv F g ⟨.ptr d [], [(d, .box (.v t (dflt t)))]⟩) := by
  obtain ⟨z, h1, h2⟩ := zero_run (w := w) (hf.ty E t hE)
  have hz : z.cells = (zcells t).toArray := by apply Array.ext'; simpa using h2
  refine Res_world (v := .pointer (some ⟨w.heap.size, 0, none⟩)) (w' := w.alloc (.cells (zcells t).toArray E (0, 0))) ?_ (newBox_out hI hd (by simp only [CRep]; exact Rep_dflt t (hf.ty E t hE).plain) E)
  unfold execOp
  simp [ho, Instr.alloc, h1, newVar, newRow, hz]

theorem allocC_sound (hf : Fit P H) (hI : Inv w S hv F g) (o : Oper) (ρ : Operand → Value) (E : Nat) (ho : o.op = .alloc E) (hE : H.ty E = none) (hC : H.cell E = true) {d : Nat} (hd : g d = none) :
    Res P ((execOp ρ o).run P w) (Out w S hv F g ⟨.ptr d [], [(d, .box .dead)]⟩) := by
  obtain ⟨⟨i, h1, _, z, h2, h3, h4⟩, _⟩ := hf.cell E hE hC
  have hz : z.cells = [z].toArray := by apply Array.ext'; simpa using h3
  have hr : (zeroValue E).run P w = .ok z w := by simp [zeroValue, typeInfo, h1, h2]
  refine Res_world (v := .pointer (some ⟨w.heap.size, 0, none⟩)) (w' := w.alloc (.cells [z].toArray E (0, 0))) ?_ (newBox_out hI hd (by simp only [CRep]; exact ⟨z, rfl, h4⟩) E)
  unfold execOp
  simp [ho, Instr.alloc, hr, newVar, newRow, hz]

theorem box_sound (hI : Inv w S hv F g) (o : Oper) (ρ : Operand → Value) (E : Nat) (x : Operand) (ho : o.op = .box E x) {a : SV} {n : Bool × Nat} (ha : a.ag = some n) (hx : VR w S hv g a (ρ x)) {d : Nat} (hd : g d = none) :
    Res P ((execOp ρ o).run P w) (Out w S hv F g ⟨.ptr d [], [(d, .box a)]⟩) := by
  obtain ⟨cs, _, hc, _, h2⟩ := VR_cells ha hx
  have hz : (ρ x).cells = cs.toArray := by apply Array.ext'; simpa using h2
  refine Res_world (v := .pointer (some ⟨w.heap.size, 0, none⟩)) (w' := w.alloc (.cells cs.toArray E (0, 0))) ?_ (newBox_out hI hd hc E)
  unfold execOp
  simp [ho, Instr.box, newVar, newRow, hz]

/-! ### rows -/
/-- the elements xs lie one after the other in these cells -/
def Laid {t : Ty} (E : Nat → Den t → List Value → Prop) (cs : List Value) (xs : List (Den t)) : Prop :=
  ∀ i e, xs[i]? = some e → ∃ c, c.length = size t ∧ (∀ j v, c[j]? = some v → cs[i * size t + j]? = some v) ∧ E i e c

theorem newRow_out (hI : Inv w S hv F g) (hl : ∀ c r, gl c = some r → g c = some r) {d : Nat} (hd : g d = none) {t : Ty} {dp : Bool} {xs : List (Den t)} {gs fs : List Nat} (hgf : (gs ++ fs).Nodup) (hgs : ∀ k ∈ gs, g k ≠ none) (hfs : ∀ k ∈ fs, gl k ≠ none)
    {cap : Nat} {arr : Array Value} {T : Nat} {w' : World} (hw : w'.heap = (w.alloc (.cells arr T (0, 0))).heap) (hlen : xs.length ≤ cap) (hbig : xs.length ≤ big) (hsz : cap * size t ≤ arr.size)
    {G : Nat → List Nat} (hG : ∀ i, ∀ k ∈ G i, k ∈ gs) (hGd : ∀ i j k, k ∈ G i → k ∈ G j → i = j)
    (hlaid : Laid (fun i e c => (dp = true → DRep w t e (FL F (G i)) c) ∧ (dp = false → Rep w (fun b => S b ∨ FL F fs b ∨ (dp = false ∧ FL F gs b)) false t e c)) arr.toList xs) (hstill : Still w w' := by first | exact ⟨rfl, rfl, rfl, Nat.le_refl _⟩ | exact ⟨rfl, rfl, rfl, Nat.le_add_right _ _⟩ | assumption) :
    Out w S hv F g ⟨.ref d, (d, .row t dp false xs) :: ((gs.map fun c => (c, Rg.gone)) ++ frozen gl fs)⟩ (.slice (some ⟨w.heap.size, 0, none⟩) xs.length cap) w' := by
  have hs := new_step (r := .row t dp false xs) (v := .slice (some ⟨w.heap.size, 0, none⟩) xs.length cap) (deep := dp) hI hl hd hw rfl hgf hgs hfs (by
    intro hx h1 h2
    simp only [GRep, if_true]
    refine .inr ⟨rfl, w.heap.size, 0, cap, arr, T, fun i b => dp = true ∧ FL F (G i) b, rfl, hlen, hbig, h1, by simpa using hsz, .inl rfl, ?_, ?_, ?_⟩
    · rintro i b ⟨h3, k, hk, hkb⟩
      refine ⟨.inr ⟨h3, k, hG i k hk, hkb⟩, ?_⟩
      have := hI.old k b hkb
      omega
    · rintro i j b ⟨_, k, hk, hkb⟩ ⟨_, k', hk', hkb'⟩
      have := hI.disj k k' b hkb hkb'
      subst this
      exact hGd i j k hk hk'
    · intro i e he
      obtain ⟨c, h3, h4, h5, h6⟩ := hlaid i e he
      refine ⟨c, h3, ?_, ?_⟩
      · intro j u hj
        simp only [Nat.zero_add, World.cell?, h1]
        simpa using h4 j u hj
      · cases dp with
        | true =>
          refine DRep_mono _ _ _ _ _ (fun b hb => ⟨rfl, hb⟩) (fun b ⟨k, hk, hkb⟩ => h2 b (hI.old k b hkb)) (h5 rfl)
        | false =>
          refine Rep_mono (S := fun b => S b ∨ FL F fs b ∨ (false = false ∧ FL F gs b)) (fun b o v hb hc => ?_) (fun _ h => h) _ _ _ _ (h6 rfl)
          have hlt : b < w.heap.size := by
            rcases hb with hb | ⟨k, _, hkb⟩ | ⟨_, k, _, hkb⟩
            · exact hI.sold b hb
            · exact hI.old k b hkb
            · exact hI.old k b hkb
          rw [cell_heap (h2 b hlt)]; exact hc)
  refine Out.mk (updReg_re g gl d _ gs fs) hs ?_
  rw [VR_cell rfl]
  simp only [CRep, if_true]
  exact ⟨by simp [reLook], rfl, trivial⟩
end
end Go.Rf

namespace Go.Rf

section
variable {P : Program} {H : Hints} {w : World} {S : Nat → Prop} {hv : Nat → Value} {F : Nat → Nat → Prop} {g gl : Look}

theorem zeroArr (z : Array Value) (N i j : Nat) (v : Value) (hv : z.toList[j]? = some v) (h : i * z.size + j < N) : ((Array.range N).map fun k => z[k % z.size]!).toList[i * z.size + j]? = some v := by
  have hj : j < z.size := by
    have := (List.getElem?_eq_some_iff.1 hv).1
    simpa using this
  have e : (i * z.size + j) % z.size = j := by
    rw [Nat.add_comm, Nat.add_mul_mod_self_right, Nat.mod_eq_of_lt hj]
  have hz : z[j]? = some v := by simpa using hv
  simp only [Array.toList_map, List.getElem?_map, Array.toList_range, List.getElem?_range h, Option.map_some, e]
  rw [getElem!_def, hz]

theorem zeroArr_size (z : Array Value) (N : Nat) : ((Array.range N).map fun k => z[k % z.size]!).size = N := by simp

theorem askRoom_run (n : Nat) : (askRoom n).run P w = .ok () w := by
  unfold askRoom
  split <;> rfl

theorem getElem?_replicate_some {α : Type} {n i : Nat} {a e : α} (h : (List.replicate n a)[i]? = some e) : i < n ∧ e = a := by
  rw [List.getElem?_replicate] at h
  split at h
  · exact ⟨by assumption, by simpa using h.symm⟩
  · cases h

theorem makeSlice_sound (hf : Fit P H) (hI : Inv w S hv F g) (o : Oper) (ρ : Operand → Value) (E : Nat) (l c : Operand) (ho : o.op = .makeSlice E l c) {t : Ty} (hE : H.ty E = some (.sl t)) {n m : Int} (hn : VR w S hv g (.v (.int .i64) n) (ρ l)) (hm : VR w S hv g (.v (.int .i64) m) (ρ c))
    (h0 : 0 ≤ n) (h1 : n ≤ m) (h2 : m ≤ (lim : Int)) {d : Nat} (hd : g d = none) :
    Res P ((execOp ρ o).run P w) (Out w S hv F g ⟨.ref d, [(d, .row t true false (List.replicate n.toNat (dflt t)))]⟩) := by
  rw [VR_int] at hn hm
  obtain ⟨T, hu, hT⟩ := (hf.ty E _ hE).under
  have hft := hf.ty T t hT
  obtain ⟨i, z, h3, h4, h5, h6, h7, _⟩ := hft.info
  have hpos := hft.pos
  have hzs : z.cells.size = size t := by rw [← zcells_length t, ← h7]; simp
  have hl' : m ≤ 1099511627776 := h2
  have e1 : IntKind.i64.wrap n = n := by simp [IntKind.wrap, IntKind.bits, IntKind.signed]; omega
  have e2 : IntKind.i64.wrap m = m := by simp [IntKind.wrap, IntKind.bits, IntKind.signed]; omega
  have hb : (i.bytes : Int) * m ≤ 281474976710656 := by
    have : (i.bytes : Int) * m ≤ 128 * m := Int.mul_le_mul_of_nonneg_right (by omega) (by omega)
    omega
  obtain ⟨N, rfl⟩ := Int.eq_ofNat_of_zero_le h0
  obtain ⟨C, rfl⟩ := Int.eq_ofNat_of_zero_le (Int.le_trans h0 h1)
  have hC : C * i.size = 0 ↔ C = 0 := by rw [h4, Nat.mul_eq_zero]; omega
  have hrun : (execOp ρ o).run P w = .ok (.value (.slice (some ⟨w.heap.size, 0, none⟩) N C)) (w.alloc (.cells ((Array.range (C * size t)).map fun k => z.cells[k % z.cells.size]!) T (0, 0))) := by
    unfold execOp
    have hb' : ¬ (281474976710656 < (i.bytes : Int) * (C : Int)) := by omega
    have hNC : ¬ ((C : Int) < (N : Int)) := by omega
    have hN0 : ¬ ((N : Int) < 0) := by omega
    have hCn : ¬ ((C : Int) < 0) := by omega
    by_cases hC0 : C * size t = 0
    · simp only [ho, Instr.makeSlice, Sem.run_bind, run_underlying hu, hn.1, hm.1, asInt, asIntOf, typeInfo, program, Sem.run, Result.andThen_ok, h3, e1, e2, Sem.run_pure]
      simp [hb', hNC, hN0, hCn, askRoom_run, sizeOf, typeInfo, h3, h4, newRow, hC0, show Array.range 0 = #[] from rfl]
    · simp only [ho, Instr.makeSlice, Sem.run_bind, run_underlying hu, hn.1, hm.1, asInt, asIntOf, typeInfo, program, Sem.run, Result.andThen_ok, h3, e1, e2, Sem.run_pure]
      simp [hb', hNC, hN0, hCn, askRoom_run, sizeOf, typeInfo, h3, h4, newRow, zeroValue, h6, hC0]
  refine Res_world hrun ?_
  have hout := newRow_out (gl := g) (d := d) (t := t) (dp := true) (xs := List.replicate (N : Int).toNat (dflt t)) (gs := []) (fs := []) (cap := C) (arr := (Array.range (C * size t)).map fun k => z.cells[k % z.cells.size]!) (T := T)
    (w' := w.alloc (.cells ((Array.range (C * size t)).map fun k => z.cells[k % z.cells.size]!) T (0, 0))) (G := fun _ => []) hI (fun _ _ h => h) hd (by simp) (by simp) (by simp) rfl (by simp; omega) (by simp [big]; omega) (by simp) (by simp) (by simp) ?_
  · simp only [List.map_nil, List.append_nil, List.length_replicate, Int.toNat_natCast] at hout ⊢
    exact hout
  · intro i' e he
    obtain ⟨hi, rfl⟩ := getElem?_replicate_some he
    refine ⟨zcells t, zcells_length t, ?_, fun _ => DRep_dflt _ t hft.plain, fun h => by cases h⟩
    intro j v hj
    have hj' : j < size t := by
      have := (List.getElem?_eq_some_iff.1 hj).1
      rwa [zcells_length] at this
    have := zeroArr z.cells (C * size t) i' j v (by rw [h7]; exact hj) (by
      rw [hzs]
      have h8 : (i' + 1) * size t ≤ C * size t := Nat.mul_le_mul_right _ (by simp at hi; omega)
      rw [Nat.add_mul] at h8
      omega)
    rw [hzs] at this ⊢
    exact this

/-! ### elements written out -/
theorem partsList_eq : ∀ (ps : List (Nat × Operand)) (k : Nat) (as l : List SV), partsList k ps as = some l → l = as ∧ as.length = ps.length ∧ ∀ i p, ps[i]? = some p → p.1 = k + i
  | [], k, [], l, h => by simp [partsList] at h; subst h; simp
  | [], k, a :: as, l, h => by simp [partsList] at h
  | (i, x) :: ps, k, [], l, h => by simp [partsList] at h
  | (i, x) :: ps, k, a :: as, l, h => by
    simp only [partsList] at h
    split at h <;> try (cases h; done)
    rename_i hik
    have hik : i = k := by simpa using hik
    subst hik
    split at h <;> try (cases h; done)
    rename_i r hr
    simp at h
    obtain ⟨e1, e2, e3⟩ := partsList_eq ps (i + 1) as r hr
    subst e1
    refine ⟨h.symm, by simp [e2], ?_⟩
    intro j p hj
    cases j with
    | zero => simp at hj; subst hj; simp
    | succ j => simp at hj; rw [e3 j p hj]; omega

theorem fill_flat {sz : Nat} (ρ : Operand → Value) : ∀ (ps : List (Nat × Operand)) (k : Nat) (pre tail : List Value) (cs : List (List Value)), (∀ i p, ps[i]? = some p → p.1 = k + i) →
    cs = ps.map (fun p => (ρ p.2).cells.toList) → (∀ c ∈ cs, c.length = sz) → pre.length = k * sz → tail.length = ps.length * sz →
    Instr.fill (fun i => some (i * sz, sz)) (pre ++ tail).toArray (ps.map fun p => (p.1, ρ p.2)) = some (pre ++ cs.flatten).toArray
  | [], k, pre, tail, cs, _, hcs, _, _, ht => by
    subst hcs
    have : tail = [] := List.eq_nil_of_length_eq_zero (by simpa using ht)
    subst this
    simp [Instr.fill]
  | (i, x) :: ps, k, pre, tail, cs, hi, hcs, hl, hp, ht => by
    subst hcs
    have hik : i = k := by have := hi 0 _ rfl; simpa using this
    subst hik
    have hc := hl ((ρ x).cells.toList) (by simp)
    simp only [List.length_cons, Nat.add_mul, Nat.one_mul] at ht
    simp only [List.map_cons]
    rw [fill_one (off := i * sz) (sz := sz) rfl rfl hc (by simp [hp, ht])]
    have e1 : (pre ++ tail).toArray.toList.take (i * sz) = pre := by simp [← hp]
    have e2 : (pre ++ tail).toArray.toList.drop (i * sz + sz) = tail.drop sz := by simp [← hp, List.drop_append]
    rw [e1, e2, ← List.append_assoc]
    rw [fill_flat ρ ps (i + 1) _ (tail.drop sz) (ps.map fun p => (ρ p.2).cells.toList) (fun j p hj => by have := hi (j + 1) p (by simpa using hj); omega) rfl (fun c h => hl c (by simp at h ⊢; exact .inr h)) (by simp [hp, hc, Nat.add_mul]) (by simp [ht])]
    simp

theorem flatten_get {sz : Nat} : ∀ (cs : List (List Value)) (i j : Nat) (c : List Value) (v : Value), (∀ c ∈ cs, c.length = sz) → cs[i]? = some c → c[j]? = some v → cs.flatten[i * sz + j]? = some v
  | [], i, j, c, v, _, h, _ => by simp at h
  | c0 :: cs, 0, j, c, v, hl, h, hv => by
    simp at h
    subst h
    have := (List.getElem?_eq_some_iff.1 hv).1
    simp [List.getElem?_append_left this, hv]
  | c0 :: cs, i + 1, j, c, v, hl, h, hv => by
    have h0 := hl c0 (by simp)
    simp only [List.flatten_cons, Nat.add_mul, Nat.one_mul]
    rw [List.getElem?_append_right (by omega)]
    have e : i * sz + sz + j - c0.length = i * sz + j := by omega
    rw [e]
    exact flatten_get cs i j c v (fun c hc => hl c (by simp [hc])) (by simpa using h) hv

theorem view0_regs : ∀ (a : SV) (d : D) (l : List Nat), view0 gl a = some (d, l) → ∀ k ∈ l, gl k ≠ none := by
  intro a
  induction a with
  | v t x => intro d l h; simp only [view0, Option.some.injEq, Prod.mk.injEq] at h; obtain ⟨rfl, rfl⟩ := h; simp
  | ref c =>
    intro d l h
    simp only [view0] at h
    split at h <;> try (cases h; done)
    · rename_i hg; simp only [Option.some.injEq, Prod.mk.injEq] at h; obtain ⟨rfl, rfl⟩ := h; simp [hg]
    · rename_i hg; simp only [Option.some.injEq, Prod.mk.injEq] at h; obtain ⟨rfl, rfl⟩ := h; simp [hg]
    · simp only [Option.some.injEq, Prod.mk.injEq] at h; obtain ⟨rfl, rfl⟩ := h; simp
  | sub c sz lo hi =>
    intro d l h
    simp only [view0] at h
    split at h <;> try (cases h; done)
    · rename_i hg
      split at h <;> try (cases h; done)
      simp only [Option.some.injEq, Prod.mk.injEq] at h; obtain ⟨rfl, rfl⟩ := h; simp [hg]
    · split at h <;> try (cases h; done)
      simp only [Option.some.injEq, Prod.mk.injEq] at h; obtain ⟨rfl, rfl⟩ := h; simp
  | one a ih =>
    intro d l h
    simp only [view0] at h
    split at h <;> try (cases h; done)
    rename_i h'
    simp only [Option.some.injEq, Prod.mk.injEq] at h; obtain ⟨rfl, rfl⟩ := h
    exact ih _ _ h'
  | pair a b iha ihb =>
    intro d l h
    simp only [view0] at h
    split at h <;> try (cases h; done)
    rename_i h1 h2
    simp only [Option.some.injEq, Prod.mk.injEq] at h; obtain ⟨rfl, rfl⟩ := h
    intro k hk
    rcases List.mem_append.1 hk with hk | hk
    · exact iha _ _ h1 k hk
    · exact ihb _ _ h2 k hk
  | _ => intro d l h; simp [view0] at h

theorem viewP0_regs (a : SV) (d : D) (l : List Nat) (h : viewP0 gl a = some (d, l)) : ∀ k ∈ l, gl k ≠ none := by
  unfold viewP0 at h
  split at h
  · simp only [Option.some.injEq, Prod.mk.injEq] at h; obtain ⟨rfl, rfl⟩ := h; simp
  · split at h
    · rename_i hg
      split at h <;> try (cases h; done)
      split at h <;> try (cases h; done)
      rename_i h'
      simp only [Option.some.injEq, Prod.mk.injEq] at h; obtain ⟨rfl, rfl⟩ := h
      intro k hk
      rcases List.mem_cons.1 hk with rfl | hk
      · simp [hg]
      · exact view0_regs _ _ _ h' k hk
    · split at h <;> try (cases h; done)
      simp only [Option.some.injEq, Prod.mk.injEq] at h; obtain ⟨rfl, rfl⟩ := h; simp
    · rename_i hg
      split at h <;> try (cases h; done)
      split at h <;> try (cases h; done)
      split at h <;> try (cases h; done)
      simp only [Option.some.injEq, Prod.mk.injEq] at h; obtain ⟨rfl, rfl⟩ := h; simp [hg]
    · cases h
  · cases h

theorem viewC0_regs : ∀ (a : SV) (d : D) (l : List Nat), viewC0 gl a = some (d, l) → ∀ k ∈ l, gl k ≠ none := by
  intro a
  induction a with
  | unit => intro d l h; simp only [viewC0, Option.some.injEq, Prod.mk.injEq] at h; obtain ⟨rfl, rfl⟩ := h; simp
  | tup a b iha ihb =>
    intro d l h
    simp only [viewC0] at h
    split at h <;> try (cases h; done)
    rename_i h1 h2
    simp only [Option.some.injEq, Prod.mk.injEq] at h; obtain ⟨rfl, rfl⟩ := h
    intro k hk
    rcases List.mem_append.1 hk with hk | hk
    · exact viewP0_regs _ _ _ h1 k hk
    · exact ihb _ _ h2 k hk
  | _ => intro d l h; simp [viewC0] at h

theorem view1_regs (a : SV) (d : D) (l : List Nat) (h : view1 gl a = some (d, l)) : ∀ k ∈ l, gl k ≠ none := by
  unfold view1 at h
  split at h
  · split at h <;> try (cases h; done)
    rename_i h'
    simp only [Option.some.injEq, Prod.mk.injEq] at h; obtain ⟨rfl, rfl⟩ := h
    exact viewC0_regs _ _ _ h'
  · exact view0_regs _ _ _ h

theorem viewP_regs (a : SV) (d : D) (l : List Nat) (h : viewP gl a = some (d, l)) : ∀ k ∈ l, gl k ≠ none := by
  unfold viewP at h
  split at h
  · simp only [Option.some.injEq, Prod.mk.injEq] at h; obtain ⟨rfl, rfl⟩ := h; simp
  · split at h
    · rename_i hg
      split at h <;> try (cases h; done)
      split at h <;> try (cases h; done)
      rename_i h'
      simp only [Option.some.injEq, Prod.mk.injEq] at h; obtain ⟨rfl, rfl⟩ := h
      intro k hk
      rcases List.mem_cons.1 hk with rfl | hk
      · simp [hg]
      · exact view1_regs _ _ _ h' k hk
    · split at h <;> try (cases h; done)
      simp only [Option.some.injEq, Prod.mk.injEq] at h; obtain ⟨rfl, rfl⟩ := h; simp
    · rename_i hg
      split at h <;> try (cases h; done)
      split at h <;> try (cases h; done)
      split at h <;> try (cases h; done)
      simp only [Option.some.injEq, Prod.mk.injEq] at h; obtain ⟨rfl, rfl⟩ := h; simp [hg]
    · cases h
  · cases h

theorem viewC_regs : ∀ (a : SV) (d : D) (l : List Nat), viewC gl a = some (d, l) → ∀ k ∈ l, gl k ≠ none := by
  intro a
  induction a with
  | unit => intro d l h; simp only [viewC, Option.some.injEq, Prod.mk.injEq] at h; obtain ⟨rfl, rfl⟩ := h; simp
  | tup a b iha ihb =>
    intro d l h
    simp only [viewC] at h
    split at h <;> try (cases h; done)
    rename_i h1 h2
    simp only [Option.some.injEq, Prod.mk.injEq] at h; obtain ⟨rfl, rfl⟩ := h
    intro k hk
    rcases List.mem_append.1 hk with hk | hk
    · exact viewP_regs _ _ _ h1 k hk
    · exact ihb _ _ h2 k hk
  | _ => intro d l h; simp [viewC] at h

theorem view_regs (a : SV) (d : D) (l : List Nat) (h : view gl a = some (d, l)) : ∀ k ∈ l, gl k ≠ none := by
  unfold view at h
  split at h
  · split at h <;> try (cases h; done)
    rename_i h'
    simp only [Option.some.injEq, Prod.mk.injEq] at h; obtain ⟨rfl, rfl⟩ := h
    exact viewC_regs _ _ _ h'
  · exact view0_regs _ _ _ h

/-- what the elements of a slice that is written out are -/
theorem elems_sound (hI : Inv w S hv F g) (hl : ∀ c r, gl c = some r → g c = some r) {frz : Bool} {t : Ty} : ∀ (as : List SV) (vs : List Value) (xs : List (Den t)) (gs fs : List Nat) (dp : Bool),
    elemsOf gl frz t as = some (xs, gs, fs, dp) → All2 (fun a v => VR w S hv g a v) as vs → (gs ++ fs).Nodup →
    xs.length = as.length ∧ (∀ k ∈ gs, g k ≠ none) ∧ (∀ k ∈ fs, gl k ≠ none) ∧ (∀ v ∈ vs, v.cells.toList.length = size t) ∧
      ∃ G : Nat → List Nat, (∀ i, ∀ k ∈ G i, k ∈ gs) ∧ (∀ i j k, k ∈ G i → k ∈ G j → i = j) ∧
        ∀ i e v, xs[i]? = some e → vs[i]? = some v → (dp = true → DRep w t e (FL F (G i)) v.cells.toList) ∧ Rep w (fun b => S b ∨ FL F fs b ∨ FL F gs b) false t e v.cells.toList
  | [], vs, xs, gs, fs, dp, h, h2, _ => by
    simp only [elemsOf, Option.some.injEq, Prod.mk.injEq] at h
    obtain ⟨rfl, rfl, rfl, rfl⟩ := h
    cases h2
    exact ⟨rfl, by simp, by simp, by simp, fun _ => [], by simp, by simp, by simp⟩
  | a :: as, v :: vs, xs, gs, fs, dp, h, .cons h1 h2, hnd => by
    simp only [elemsOf] at h
    split at h <;> try (cases h; done)
    rename_i xs' gs' fs' dp' h'
    split at h
    · -- taken in
      rename_i d l hd
      split at h <;> try (cases h; done)
      rename_i x hx
      simp only [Option.some.injEq, Prod.mk.injEq] at h
      obtain ⟨rfl, rfl, rfl, rfl⟩ := h
      have hdx := D_to hx
      subst hdx
      have hnd' : (gs' ++ fs').Nodup := by
        rw [List.append_assoc, List.nodup_append] at hnd
        exact hnd.2.1
      obtain ⟨e1, e2, e3, e4, G, g1, g2, g3⟩ := elems_sound hI hl as vs xs' gs' fs' dp' h' h2 hnd'
      have hln : l.Nodup := by
        rw [List.append_assoc, List.nodup_append] at hnd
        exact hnd.1
      have hlg : ∀ k, k ∈ l → k ∈ gs' → False := by
        intro k hk hk'
        rw [List.append_assoc, List.nodup_append] at hnd
        exact hnd.2.2 k hk k (List.mem_append_left _ hk') rfl
      have hag : ∃ y, a.ag = some y := by
        cases a <;> simp [toDeep] at hd <;> exact ⟨_, rfl⟩
      obtain ⟨y, hag⟩ := hag
      obtain ⟨cs, _, hc, _, hcs⟩ := VR_cells hag h1
      have hD := toDeep_sound hI hl _ _ _ _ hd hln hc
      simp only at hD
      rw [← hcs] at hD
      refine ⟨by simp [e1], ?_, e3, ?_, fun i => match i with
        | 0 => l
        | i + 1 => G i, ?_, ?_, ?_⟩
      · intro k hk
        rcases List.mem_append.1 hk with hk | hk
        · obtain ⟨r, hr, _⟩ := toDeep_rows hl _ _ _ hd k hk
          rw [hr]; simp
        · exact e2 k hk
      · intro u hu
        rcases List.mem_cons.1 hu with rfl | hu
        · exact DRep_length _ _ _ _ hD
        · exact e4 u hu
      · intro i k hk
        cases i with
        | zero => exact List.mem_append_left _ hk
        | succ i => exact List.mem_append_right _ (g1 i k hk)
      · intro i j k hi hj
        cases i with
        | zero =>
          cases j with
          | zero => rfl
          | succ j => exact (hlg k hi (g1 j k hj)).elim
        | succ i =>
          cases j with
          | zero => exact (hlg k hj (g1 i k hi)).elim
          | succ j => rw [g2 i j k hi hj]
      · intro i e u he hu
        cases i with
        | zero =>
          simp at he hu
          subst he hu
          exact ⟨fun _ => hD, DRep_Rep _ _ _ _ (fun b ⟨k, hk, hb⟩ => .inr (.inr ⟨k, List.mem_append_left _ hk, hb⟩)) hD⟩
        | succ i =>
          obtain ⟨k1, k2⟩ := g3 i e u (by simpa using he) (by simpa using hu)
          refine ⟨k1, Rep_mono (fun _ _ _ _ h => h) ?_ _ _ _ _ k2⟩
          rintro b (hb | hb | ⟨k, hk, hb⟩)
          · exact .inl hb
          · exact .inr (.inl hb)
          · exact .inr (.inr ⟨k, List.mem_append_right _ hk, hb⟩)
    · split at h
      · -- nil
        split at h <;> try (cases h; done)
        rename_i x hx
        simp only [Option.some.injEq, Prod.mk.injEq] at h
        obtain ⟨rfl, rfl, rfl, rfl⟩ := h
        obtain ⟨e1, e2, e3, e4, G, g1, g2, g3⟩ := elems_sound hI hl as vs xs' gs' fs' dp' h' h2 hnd
        rw [VR_cell rfl] at h1
        simp only [CRep, List.cons.injEq, and_true] at h1
        subst h1
        have hD : DRep w t x (FL F []) [.slice none 0 0] := by
          unfold elemsOf.d0 at hx
          split at hx <;> simp at hx
          subst hx
          simp only [DRep]
          exact ⟨_, rfl, .inl ⟨rfl, rfl, rfl⟩⟩
        refine ⟨by simp [e1], e2, e3, ?_, fun i => match i with
          | 0 => []
          | i + 1 => G i, ?_, ?_, ?_⟩
        · intro u hu
          rcases List.mem_cons.1 hu with rfl | hu
          · exact DRep_length _ _ _ _ hD
          · exact e4 u hu
        · intro i k hk
          cases i with
          | zero => simp at hk
          | succ i => exact g1 i k hk
        · intro i j k hi hj
          cases i with
          | zero => simp at hi
          | succ i =>
            cases j with
            | zero => simp at hj
            | succ j => rw [g2 i j k hi hj]
        · intro i e u he hu
          cases i with
          | zero =>
            simp at he hu
            subst he hu
            exact ⟨fun _ => hD, DRep_Rep _ _ _ _ (fun b ⟨k, hk, hb⟩ => by cases hk) hD⟩
          | succ i => exact g3 i e u (by simpa using he) (by simpa using hu)
      · -- shown
        split at h <;> try (cases h; done)
        rename_i d l hd
        split at h <;> try (cases h; done)
        rename_i x hx
        simp only [Option.some.injEq, Prod.mk.injEq] at h
        obtain ⟨rfl, rfl, rfl, rfl⟩ := h
        have hdx := D_to hx
        subst hdx
        have hnd' : (gs' ++ fs').Nodup := by
          rw [List.nodup_append] at hnd ⊢
          have := hnd.2.1
          rw [List.nodup_append] at this
          exact ⟨hnd.1, this.2.1, fun a ha b hb => hnd.2.2 a ha b (List.mem_append_right _ hb)⟩
        obtain ⟨e1, e2, e3, e4, G, g1, g2, g3⟩ := elems_sound hI hl as vs xs' gs' fs' dp' h' h2 hnd'
        have hag : ∃ y, a.ag = some y := by
          cases a <;> simp [view, view0] at hd <;> exact ⟨_, rfl⟩
        obtain ⟨y, hag⟩ := hag
        obtain ⟨cs, _, hc, _, hcs⟩ := VR_cells hag h1
        have hR := view_sound (S' := fun b => S b ∨ FL F (l ++ fs') b ∨ FL F gs' b) hI hl _ _ _ _ hd (fun _ h => .inl h) (fun b ⟨k, hk, hb⟩ => .inr (.inl ⟨k, List.mem_append_left _ hk, hb⟩)) hc
        simp only at hR
        rw [← hcs] at hR
        refine ⟨by simp [e1], e2, ?_, ?_, fun i => match i with
          | 0 => []
          | i + 1 => G i, ?_, ?_, ?_⟩
        · intro k hk
          rcases List.mem_append.1 hk with hk | hk
          · exact view_regs _ _ _ hd k hk
          · exact e3 k hk
        · intro u hu
          rcases List.mem_cons.1 hu with rfl | hu
          · exact Rep_length _ _ _ hR
          · exact e4 u hu
        · intro i k hk
          cases i with
          | zero => simp at hk
          | succ i => exact g1 i k hk
        · intro i j k hi hj
          cases i with
          | zero => simp at hi
          | succ i =>
            cases j with
            | zero => simp at hj
            | succ j => rw [g2 i j k hi hj]
        · intro i e u he hu
          cases i with
          | zero =>
            simp at he hu
            subst he hu
            exact ⟨fun hf => Rep_flat_D _ _ _ hf hR, hR⟩
          | succ i =>
            obtain ⟨k1, k2⟩ := g3 i e u (by simpa using he) (by simpa using hu)
            refine ⟨fun hf => ?_, Rep_mono (fun _ _ _ _ h => h) ?_ _ _ _ _ k2⟩
            · exact Rep_flat_D _ _ _ hf k2
            · rintro b (hb | ⟨k, hk, hb⟩ | hb)
              · exact .inl hb
              · exact .inr (.inl ⟨k, List.mem_append_right _ hk, hb⟩)
              · exact .inr (.inr hb)
end
end Go.Rf

namespace Go.Rf

section
variable {P : Program} {H : Hints} {w : World} {S : Nat → Prop} {hv : Nat → Value} {F : Nat → Nat → Prop} {g gl : Look}

theorem fresh_run {d : Nat} {m : M Eff} {e : Eff} (h : (fresh g d m).run = some e) : g d = none ∧ m.run = some e := by
  unfold fresh at h
  split at h
  · exact ⟨by assumption, h⟩
  · simp [M.run] at h

theorem buildSlice_sound (hf : Fit P H) (hI : Inv w S hv F g) (hl : ∀ c r, gl c = some r → g c = some r) (o : Oper) (ρ : Operand → Value) (E n : Nat) (ps : Array (Nat × Operand)) (ho : o.op = .buildSlice E n ps) {t : Ty} (hE : H.ty E = some (.sl t))
    {as l : List SV} (hp : partsList 0 ps.toList as = some l) (hn : n = l.length) (hs : n * size t ≤ 16777216) (h2 : All2 (fun x v => VR w S hv g x v) as (ps.toList.map fun p => ρ p.2))
    {d : Nat} (hd : g d = none) {frz : Bool} {e : Eff} (he : (buildSliceE gl d frz t l).run = some e) :
    Res P ((execOp ρ o).run P w) (Out w S hv F g e) := by
  obtain ⟨_, he⟩ := fresh_run he
  obtain ⟨e1, e2, e3⟩ := partsList_eq ps.toList 0 as l hp
  subst e1
  split at he
  rotate_left
  · simp [M.run] at he
  rename_i xs gs fs dp hel
  split at he
  rotate_left
  · simp [M.run] at he
  rename_i hnd
  simp only [M.run, Option.some.injEq] at he
  subst he
  obtain ⟨T, hu, hT⟩ := (hf.ty E _ hE).under
  have hft := hf.ty T t hT
  obtain ⟨i, z, h3, h4, h5, h6, h7, _⟩ := hft.info
  have hpos := hft.pos
  have hzs : z.cells.size = size t := by rw [← zcells_length t, ← h7]; simp
  obtain ⟨k1, k2, k3, k4, G, k5, k6, k7⟩ := elems_sound hI hl l _ xs gs fs dp hel h2 (nodupB_spec hnd)
  have hcl : ∀ c ∈ ps.toList.map (fun p => (ρ p.2).cells.toList), c.length = size t := by
    intro c hc
    obtain ⟨p, hp, rfl⟩ := List.mem_map.1 hc
    exact k4 (ρ p.2) (List.mem_map.2 ⟨p, hp, rfl⟩)
  have hfill := fill_flat (sz := size t) ρ ps.toList 0 [] ((Array.range (n * size t)).map fun k => z.cells[k % z.cells.size]!).toList _ (fun i p h => e3 i p h) rfl hcl (by simp) (by simp [hn, e2])
  simp only [List.nil_append, Array.toArray_toList] at hfill
  have hrun : (execOp ρ o).run P w = .ok (.value (.slice (some ⟨w.heap.size, 0, none⟩) n n)) (w.alloc (.cells (ps.toList.map fun p => (ρ p.2).cells.toList).flatten.toArray T (0, 0))) := by
    unfold execOp
    have hs' : ¬ (16777216 < n * size t) := by omega
    by_cases h0 : n = 0
    · have : ps.toList = [] := List.eq_nil_of_length_eq_zero (by rw [← e2, ← hn, h0])
      have hps : ps = #[] := by apply Array.ext'; simpa using this
      subst h0
      subst hps
      simp [ho, Instr.buildSlice, run_underlying hu, sizeOf, typeInfo, h3, h4, Instr.fill, newRow, show Array.range 0 = #[] from rfl]
    · have h0' : ¬ (n * size t = 0) := by rw [Nat.mul_eq_zero]; omega
      simp [ho, Instr.buildSlice, run_underlying hu, sizeOf, typeInfo, h3, h4, hs', h0, h0', Nat.ne_of_gt hpos, zeroValue, h6, newRow]
      rw [hfill]
      simp
  refine Res_world hrun ?_
  have hlen : xs.length = n := by rw [k1, ← hn]
  have hout := newRow_out (gl := gl) (d := d) (t := t) (dp := dp) (xs := xs) (gs := gs) (fs := fs) (cap := n) (arr := (ps.toList.map fun p => (ρ p.2).cells.toList).flatten.toArray) (T := T)
    (w' := w.alloc (.cells (ps.toList.map fun p => (ρ p.2).cells.toList).flatten.toArray T (0, 0))) (G := G) hI hl hd (nodupB_spec hnd) k2 k3 rfl (by omega) (by
      have : n ≤ n * size t := Nat.le_mul_of_pos_right n hpos
      simp [big]; omega) ?_ k5 k6 ?_
  · rw [hlen] at hout
    exact hout
  · have : ∀ cs : List (List Value), (∀ c ∈ cs, c.length = size t) → cs.flatten.length = cs.length * size t := by
      intro cs
      induction cs with
      | nil => simp
      | cons c cs ih =>
        intro h
        simp only [List.flatten_cons, List.length_append, List.length_cons, Nat.add_mul, Nat.one_mul, h c (by simp), ih (fun c hc => h c (by simp [hc]))]
        omega
    have h8 := this _ hcl
    simp only [List.length_map] at h8
    simp only [List.size_toArray, h8, ← e2, ← hn]
    exact Nat.le_refl _
  · intro i e he
    have hi : i < xs.length := (List.getElem?_eq_some_iff.1 he).1
    have hip : i < ps.toList.length := by omega
    have hv' : (ps.toList.map fun p => ρ p.2)[i]? = some (ρ (ps.toList[i]'hip).2) := by rw [List.getElem?_map, List.getElem?_eq_getElem hip]; rfl
    obtain ⟨h8, h9⟩ := k7 i e _ he hv'
    refine ⟨(ρ (ps.toList[i]'hip).2).cells.toList, ?_, ?_, h8, ?_⟩
    · exact k4 _ (List.mem_of_getElem? hv')
    · intro j v hj
      have := flatten_get (sz := size t) _ i j (ρ (ps.toList[i]'hip).2).cells.toList v hcl (by rw [List.getElem?_map, List.getElem?_eq_getElem hip]; rfl) hj
      simpa using this
    · intro hdp
      refine Rep_mono (fun _ _ _ _ h => h) ?_ _ _ _ _ h9
      rintro b (hb | hb | hb)
      · exact .inl hb
      · exact .inr (.inl hb)
      · exact .inr (.inr ⟨hdp, hb⟩)
end
end Go.Rf
