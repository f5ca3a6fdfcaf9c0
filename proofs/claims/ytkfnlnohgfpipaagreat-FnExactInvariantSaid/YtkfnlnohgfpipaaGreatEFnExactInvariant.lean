/- The functions of the law FnExactInvariant as equations: the other part. -/
import Derived.Test.YtkfnlnohgfpipaaGreatEFnExactInvariantA
import Derived.KernelRfl
set_option maxRecDepth 4000
namespace Go.Proofs.YtkfnlnohgfpipaaGreat.R
open Go.Rf Go.Proofs
theorem F64E (to a1 a2) : F64 to a1 a2 =
 bif decide (0 ≤ (IntKind.i64.wrap (a2 + 1))) then
 bif decide ((IntKind.i64.wrap (a2 + 1)) < (a1.2.length : Int)) then
(a1.2.getD (Int.toNat (IntKind.i64.wrap (a2 + 1))) none).bind fun y =>
(F4a y to).bind fun r =>
 some r
else none
else none := tC
theorem F7vE (s f t7 t8) : F7v s f t7 t8 =
 bif decide (t8 < t7) then
 bif decide (0 ≤ t8) then
 bif decide (t8 < (s.2.length : Int)) then
(F64 (s.2.getD (Int.toNat t8) 0) f.1 f.2.1).bind fun r =>
 bif r then
 some (.inl t8)
else 
(F7v s f t7 (IntKind.i64.wrap (t8 + 1))).bind fun r => some r
else none
else none
else 
 some (.inr ()) := tL F3fK
theorem F3fE (s f) : F3f s f =
(F7v s f (s.2.length : Int) 0).bind fun r =>
 match r with
| .inl y =>
 some y
| .inr z =>
 some (-1) := tC
theorem F6wE (s f) : F6w s f =
(F3f s f).bind fun r =>
 some (decide (r ≥ 0)) := tC
theorem F4tE (no a1 a2 a3) : F4t no a1 a2 a3 =
 bif decide (0 ≤ no) then
 bif decide (no < (a1.2.length : Int)) then
(F6w (a1.2.getD (Int.toNat no) (true, [])) (a2, (a3, ()))).bind fun r =>
 some (!r)
else none
else none := tC
theorem Fa5E (s f t7 t8) : Fa5 s f t7 t8 =
 bif decide (t8 < t7) then
 bif decide (0 ≤ t8) then
 bif decide (t8 < (s.2.length : Int)) then
(F4t (s.2.getD (Int.toNat t8) 0) f.1 f.2.1 f.2.2.1).bind fun r =>
 bif r then
 some (.inl t8)
else 
(Fa5 s f t7 (IntKind.i64.wrap (t8 + 1))).bind fun r => some r
else none
else none
else 
 some (.inr ()) := tL F3gK
theorem F3gE (s f) : F3g s f =
(Fa5 s f (s.2.length : Int) 0).bind fun r =>
 match r with
| .inl y =>
 some y
| .inr z =>
 some (-1) := tC
theorem F7eE (s del i j) : F7e s del i j =
 bif decide (j < (s.2.length : Int)) then
 bif decide (0 ≤ j) then
 bif decide (j < (s.2.length : Int)) then
(F4t (s.2.getD (Int.toNat j) 0) del.1 del.2.1 del.2.2.1).bind fun r =>
 bif !r then
 bif decide (0 ≤ i) then
 bif decide (i < (s.2.length : Int)) then
(F7e (s.1, (s.2.set (Int.toNat i) (s.2.getD (Int.toNat j) 0))) del (IntKind.i64.wrap (i + 1)) (IntKind.i64.wrap (j + 1))).bind fun r => some r
else none
else none
else 
(F7e (s.1, s.2) del i (IntKind.i64.wrap (j + 1))).bind fun r => some r
else none
else none
else 
 some ((s.1, s.2), i) := tL F2cK
theorem F2cE (s del) : F2c s del =
(F3g (s.1, s.2) del).bind fun r =>
 bif (r == (-1)) then
 some (s.1, s.2)
else 
(F7e (s.1, s.2) del r (IntKind.i64.wrap (r + 1))).bind fun r1 =>
 bif decide (0 ≤ r1.2) then
 bif decide (r1.2 ≤ (r1.1.2.length : Int)) then
 bif decide (0 ≤ r1.2) then
 bif decide (r1.2 ≤ ((r1.1.2.take (Int.toNat r1.2) ++ (List.replicate (r1.1.2.length - (Int.toNat r1.2)) (0 : Int) ++ r1.1.2.drop r1.1.2.length)).length : Int)) then
 some (r1.1.1, (((r1.1.2.take (Int.toNat r1.2) ++ (List.replicate (r1.1.2.length - (Int.toNat r1.2)) (0 : Int) ++ r1.1.2.drop r1.1.2.length)).take (Int.toNat r1.2)).drop 0))
else none
else none
else none
else none := tC
theorem F6oE (to a1 a2 a3) : F6o to a1 a2 a3 =
 bif decide (0 ≤ (IntKind.i64.wrap (a3 - 1))) then
 bif decide ((IntKind.i64.wrap (a3 - 1)) < (a2.2.length : Int)) then
 bif decide (0 ≤ (a2.2.getD (Int.toNat (IntKind.i64.wrap (a3 - 1))) 0)) then
 bif decide ((a2.2.getD (Int.toNat (IntKind.i64.wrap (a3 - 1))) 0) < (a1.2.length : Int)) then
(F4a (a1.2.getD (Int.toNat (a2.2.getD (Int.toNat (IntKind.i64.wrap (a3 - 1))) 0)) (true, [])) to).bind fun r =>
 some r
else none
else none
else none
else none := tC
theorem F7qE (s f t7 t8) : F7q s f t7 t8 =
 bif decide (t8 < t7) then
 bif decide (0 ≤ t8) then
 bif decide (t8 < (s.2.length : Int)) then
(F6o (s.2.getD (Int.toNat t8) 0) f.1 f.2.1 f.2.2.1).bind fun r =>
 bif r then
 some (.inl t8)
else 
(F7q s f t7 (IntKind.i64.wrap (t8 + 1))).bind fun r => some r
else none
else none
else 
 some (.inr ()) := tL F2sK
theorem F2sE (s f) : F2s s f =
(F7q s f (s.2.length : Int) 0).bind fun r =>
 match r with
| .inl y =>
 some y
| .inr z =>
 some (-1) := tC
theorem F8aE (along next last k_) : F8a along next last k_ =
 bif decide (k_ ≥ 0) then
 bif decide (0 ≤ k_) then
 bif decide (k_ < (along.2.length : Int)) then
(F2c ((along.2.getD (Int.toNat k_) (true, [])).1, (along.2.getD (Int.toNat k_) (true, [])).2) (next, ((along.1, (J1k along.2 (Int.toNat k_))), (k_, ())))).bind fun r =>
 bif decide (0 ≤ k_) then
 bif decide (k_ < (along.2.length : Int)) then
 bif ((Int.toNat k_) == (Int.toNat k_)) then
(F8a (along.1, (along.2.set (Int.toNat k_) (r.1, r.2))) next last (IntKind.i64.wrap (k_ - 1))).bind fun r => some r
else none
else none
else none
else none
else none
else 
 some (along.1, along.2) := tL F2K
theorem F7yE (along next last out k_) : F7y along next last out k_ =
 bif decide (k_ ≤ last) then
 bif decide (0 ≤ k_) then
 bif decide (k_ < (along.2.length : Int)) then
(F2s (along.2.getD (Int.toNat k_) (true, [])) (next, ((out.1, out.2), (k_, ())))).bind fun r =>
 bif decide (0 ≤ k_) then
 bif decide (k_ < (along.2.length : Int)) then
 bif decide (0 ≤ r) then
 bif decide (r < (((along.2.getD (Int.toNat k_) (true, [])).2).length : Int)) then
 bif decide (out.2.length + ([(((along.2.getD (Int.toNat k_) (true, [])).2).getD (Int.toNat r) 0)] : List Int).length ≤ lim) then
(F7y along next last ((out.1 && false), (out.2 ++ [(((along.2.getD (Int.toNat k_) (true, [])).2).getD (Int.toNat r) 0)])) (IntKind.i64.wrap (k_ + 1))).bind fun r => some r
else none
else none
else none
else none
else none
else none
else none
else 
 some (out.1, out.2) := tL F2K
theorem F2E (p v path) : F2 p v path =
(F8 p v path).bind fun r =>
(F2k p).bind fun r1 =>
(F2z (r.1, r.2)).bind fun r2 =>
 bif decide (r2 ≥ 0) then
 some (true, [])
else 
(F8a (r.1, r.2) (r1.1, r1.2) (IntKind.i64.wrap ((r.2.length : Int) - 1)) (IntKind.i64.wrap ((IntKind.i64.wrap ((r.2.length : Int) - 1)) - 1))).bind fun r3 =>
 bif decide (0 < (r3.2.length : Int)) then
 bif decide (0 < (((r3.2.getD 0 (true, [])).2).length : Int)) then
(F7y (r3.1, (r3.2.set 0 ((r3.2.getD 0 (true, [])).1, (r3.2.getD 0 (true, [])).2))) (r1.1, r1.2) (IntKind.i64.wrap ((r.2.length : Int) - 1)) (false, [(((r3.2.getD 0 (true, [])).2).getD 0 0)]) 1).bind fun r4 =>
 some (r4.1, r4.2)
else none
else none := tC
theorem F5mE (p v path) : F5m p v path =
(F8 p v path).bind fun r =>
(F2z (r.1, r.2)).bind fun r1 =>
 bif decide (r1 < 1) then
 some ((true, []), false)
else 
 bif decide (0 ≤ (IntKind.i64.wrap (r1 - 1))) then
 bif decide ((IntKind.i64.wrap (r1 - 1)) < (r.2.length : Int)) then
 some (((r.2.getD (Int.toNat (IntKind.i64.wrap (r1 - 1))) (true, [])).1, (r.2.getD (Int.toNat (IntKind.i64.wrap (r1 - 1))) (true, [])).2), true)
else none
else none := tC
theorem F8mE (s1 s2 t12 t13) : F8m s1 s2 t12 t13 =
 bif decide (t13 < t12) then
 bif decide (0 ≤ t13) then
 bif decide (t13 < (s1.2.length : Int)) then
 bif decide (0 ≤ t13) then
 bif decide (t13 < (s2.2.length : Int)) then
 bif !((((s1.2.getD (Int.toNat t13) (0, 0)).1) == ((s2.2.getD (Int.toNat t13) (0, 0)).1)) && (((s1.2.getD (Int.toNat t13) (0, 0)).2) == ((s2.2.getD (Int.toNat t13) (0, 0)).2))) then
 some (.inl false)
else 
(F8m s1 s2 t12 (IntKind.i64.wrap (t13 + 1))).bind fun r => some r
else none
else none
else none
else none
else 
 some (.inr ()) := tL F37K
theorem F37E (s1 s2) : F37 s1 s2 =
 bif ((s1.2.length : Int) != (s2.2.length : Int)) then
 some false
else 
(F8m s1 s2 (s1.2.length : Int) 0).bind fun r =>
 match r with
| .inl y =>
 some y
| .inr z =>
 some true := tC
theorem F76E (own a1) : F76 own a1 =
(F37 own a1).bind fun r =>
 some r := tC
theorem F9fE (s f t7 t8) : F9f s f t7 t8 =
 bif decide (t8 < t7) then
 bif decide (0 ≤ t8) then
 bif decide (t8 < (s.2.length : Int)) then
(F76 (s.2.getD (Int.toNat t8) (true, [])) f.1).bind fun r =>
 bif r then
 some (.inl t8)
else 
(F9f s f t7 (IntKind.i64.wrap (t8 + 1))).bind fun r => some r
else none
else none
else 
 some (.inr ()) := tL F2lK
theorem F2lE (s f) : F2l s f =
(F9f s f (s.2.length : Int) 0).bind fun r =>
 match r with
| .inl y =>
 some y
| .inr z =>
 some (-1) := tC
theorem F5dE (s f) : F5d s f =
(F2l s f).bind fun r =>
 some (decide (r ≥ 0)) := tC
theorem F5rE (s) : F5r s =
 bif s.1 then
 some (true, [])
else 
 bif decide (([] : List DNode).length + s.2.length ≤ lim) then
 some (false, ([] ++ s.2))
else none := tC
theorem F3xE (t a1) : F3x t a1 =
 bif decide ((a1.2.length : Int) < 40) then
(F5d (a1.1, a1.2) (t, ())).bind fun r =>
 bif !r then
(F5r t).bind fun r1 =>
 bif decide (a1.2.length + [(r1.1, r1.2)].length ≤ lim) then
 some ((a1.1 && false), (a1.2 ++ [(r1.1, r1.2)]))
else none
else 
 some (a1.1, a1.2)
else 
 some (a1.1, a1.2) := tC
theorem F7aE (own a1 a2) : F7a own a1 a2 =
(F4c a1 a2 own 1).bind fun r =>
 some (!r) := tC
theorem F94E (s f t7 t8) : F94 s f t7 t8 =
 bif decide (t8 < t7) then
 bif decide (0 ≤ t8) then
 bif decide (t8 < (s.2.length : Int)) then
(F7a (s.2.getD (Int.toNat t8) (true, [])) f.1 f.2.1).bind fun r =>
 bif r then
 some (.inl t8)
else 
(F94 s f t7 (IntKind.i64.wrap (t8 + 1))).bind fun r => some r
else none
else none
else 
 some (.inr ()) := tL F3lK
theorem F3lE (s f) : F3l s f =
(F94 s f (s.2.length : Int) 0).bind fun r =>
 match r with
| .inl y =>
 some y
| .inr z =>
 some (-1) := tC
theorem F6lE (s f) : F6l s f =
(F3l s f).bind fun r =>
 some (decide (r ≥ 0)) := tC
theorem F6nE (wide vars t) : F6n wide vars t =
(Fs wide vars t).bind fun r =>
 bif !r then
 some ((true, []), false)
else 
 some (t, true) := tC
theorem F5vE (by_ wide vars out t30 t31 t32) : F5v by_ wide vars out t30 t31 t32 =
 bif decide (t32 < t31) then
 bif decide (0 ≤ t32) then
 bif decide (t32 < (t30.2.length : Int)) then
 bif (((t30.2.getD (Int.toNat t32) (0, 0)).1) == 2) then
 bif decide (0 ≤ ((t30.2.getD (Int.toNat t32) (0, 0)).2)) then
 bif decide (((t30.2.getD (Int.toNat t32) (0, 0)).2) < (by_.2.length : Int)) then
 bif decide (out.2.length + ((by_.2.getD (Int.toNat ((t30.2.getD (Int.toNat t32) (0, 0)).2)) (true, [])).2 : List DNode).length ≤ lim) then
(F5v by_ wide vars ((out.1 && ((by_.2.getD (Int.toNat ((t30.2.getD (Int.toNat t32) (0, 0)).2)) (true, [])).2).isEmpty), (out.2 ++ ((by_.2.getD (Int.toNat ((t30.2.getD (Int.toNat t32) (0, 0)).2)) (true, [])).2))) t30 t31 (IntKind.i64.wrap (t32 + 1))).bind fun r => some r
else none
else none
else none
else 
 bif decide (out.2.length + [(t30.2.getD (Int.toNat t32) (0, 0))].length ≤ lim) then
(F5v by_ wide vars ((out.1 && false), (out.2 ++ [(t30.2.getD (Int.toNat t32) (0, 0))])) t30 t31 (IntKind.i64.wrap (t32 + 1))).bind fun r => some r
else none
else none
else none
else 
 some (out.1, out.2) := tL FyK
theorem FyE (wide vars t by_) : Fy wide vars t by_ =
(Fs wide vars t).bind fun r =>
 bif !r then
 some ((true, []), false)
else 
 bif ((by_.2.length : Int) != vars) then
 some ((true, []), false)
else 
(F6l by_ (wide, (vars, ()))).bind fun r1 =>
 bif r1 then
 some ((true, []), false)
else 
(F5v by_ wide vars (false, []) t (t.2.length : Int) 0).bind fun r2 =>
(F6n wide vars (r2.1, r2.2)).bind fun r3 =>
 some (r3.1, r3.2) := tC
theorem F87E (k_ t p by_ t14 t15) : F87 k_ t p by_ t14 t15 =
 bif decide (t15 < t14) then
 bif decide (by_.2.length + [(false, [(2, IntKind.u64.wrap t15)])].length ≤ lim) then
(F87 k_ t p ((by_.1 && false), (by_.2 ++ [(false, [(2, IntKind.u64.wrap t15)])])) t14 (IntKind.i64.wrap (t15 + 1))).bind fun r => some r
else none
else 
 some (by_.1, by_.2) := tL F18K
theorem F9uE (t p by_ t31 t32 t33) : F9u t p by_ t31 t32 t33 =
 bif decide (t33 < t32) then
 bif decide (0 ≤ t33) then
 bif decide (t33 < (t31.2.length : Int)) then
 bif decide (0 ≤ ((t31.2.getD (Int.toNat t33) (0, (true, []))).1)) then
 bif decide (((t31.2.getD (Int.toNat t33) (0, (true, []))).1) < (by_.2.length : Int)) then
(F9u t p (by_.1, (by_.2.set (Int.toNat ((t31.2.getD (Int.toNat t33) (0, (true, []))).1)) ((t31.2.getD (Int.toNat t33) (0, (true, []))).2))) t31 t32 (IntKind.i64.wrap (t33 + 1))).bind fun r => some r
else none
else none
else none
else none
else 
 some (by_.1, by_.2) := tL F18K
theorem F18E (p k_ t) : F18 p k_ t =
(F87 k_ t p (false, []) p.2.1 0).bind fun r =>
 bif decide (0 ≤ k_) then
 bif decide (k_ < (p.2.2.2.2.length : Int)) then
(F9u t p (r.1, r.2) ((p.2.2.2.2.getD (Int.toNat k_) ((true, []), (true, []))).2) ((((p.2.2.2.2.getD (Int.toNat k_) ((true, []), (true, []))).2).2).length : Int) 0).bind fun r1 =>
(Fy p.1 p.2.1 t (r1.1, r1.2)).bind fun r2 =>
 some (r2.1, r2.2)
else none
else none := tC
theorem F7lE (preds p out t17 t18 t19) : F7l preds p out t17 t18 t19 =
 bif decide (t19 < t18) then
 bif decide (0 ≤ t19) then
 bif decide (t19 < (t17.2.length : Int)) then
(F3x ((t17.2.getD (Int.toNat t19) ((true, []), (true, []))).1) (out.1, out.2)).bind fun r =>
(F7l preds p (r.1, r.2) t17 t18 (IntKind.i64.wrap (t19 + 1))).bind fun r => some r
else none
else none
else 
 some (out.1, out.2) := tL F5K
theorem F8qE (p out t28 t29 t30) : F8q p out t28 t29 t30 =
 bif decide (t30 < t29) then
 bif decide (0 ≤ t30) then
 bif decide (t30 < (t28.2.length : Int)) then
(F79 p (out.1, out.2) (t28.2.getD (Int.toNat t30) (true, [])) t28 t29 t30 (p.2.2.2.2.length : Int) 0).bind fun r =>
(F8q p (r.1, r.2) t28 t29 (IntKind.i64.wrap (t30 + 1))).bind fun r => some r
else none
else none
else 
 some (out.1, out.2) := tL F5K
theorem F79E (p out t t28 t29 t30 t36 t37) : F79 p out t t28 t29 t30 t36 t37 =
 bif decide (t37 < t36) then
(F18 p t37 t).bind fun r =>
 bif r.2 then
(F3x r.1 (out.1, out.2)).bind fun r1 =>
(F79 p (r1.1, r1.2) t t28 t29 t30 t36 (IntKind.i64.wrap (t37 + 1))).bind fun r => some r
else 
(F79 p (out.1, out.2) t t28 t29 t30 t36 (IntKind.i64.wrap (t37 + 1))).bind fun r => some r
else 
 some (out.1, out.2) := tL F5K
theorem F5E (p preds) : F5 p preds =
(F7l preds p (false, []) p.2.2.2 (p.2.2.2.2.length : Int) 0).bind fun r =>
(F8q p (r.1, r.2) preds (preds.2.length : Int) 0).bind fun r1 =>
 some (r1.1, r1.2) := tC
theorem F69E (next a1 a2) : F69 next a1 a2 =
 bif decide (0 ≤ next) then
 bif decide (next < (a1.2.length : Int)) then
 some ((a1.2.getD (Int.toNat next) 0) == a2)
else none
else none := tC
theorem FagE (s f t7 t8) : Fag s f t7 t8 =
 bif decide (t8 < t7) then
 bif decide (0 ≤ t8) then
 bif decide (t8 < (s.2.length : Int)) then
(F69 (s.2.getD (Int.toNat t8) 0) f.1 f.2.1).bind fun r =>
 bif r then
 some (.inl t8)
else 
(Fag s f t7 (IntKind.i64.wrap (t8 + 1))).bind fun r => some r
else none
else none
else 
 some (.inr ()) := tL F2vK
theorem F2vE (s f) : F2v s f =
(Fag s f (s.2.length : Int) 0).bind fun r =>
 match r with
| .inl y =>
 some y
| .inr z =>
 some (-1) := tC
theorem F6yE (s f) : F6y s f =
(F2v s f).bind fun r =>
 some (decide (r ≥ 0)) := tC
theorem F3wE (no a1 a2 a3) : F3w no a1 a2 a3 =
(F1k a1 no).bind fun r =>
(F6y (r.1, r.2) (a2, (a3, ()))).bind fun r1 =>
 some (!r1) := tC
theorem Fa1E (s f t7 t8) : Fa1 s f t7 t8 =
 bif decide (t8 < t7) then
 bif decide (0 ≤ t8) then
 bif decide (t8 < (s.2.length : Int)) then
(F3w (s.2.getD (Int.toNat t8) 0) f.1 f.2.1 f.2.2.1).bind fun r =>
 bif r then
 some (.inl t8)
else 
(Fa1 s f t7 (IntKind.i64.wrap (t8 + 1))).bind fun r => some r
else none
else none
else 
 some (.inr ()) := tL FiK
theorem FiE (s f) : Fi s f =
(Fa1 s f (s.2.length : Int) 0).bind fun r =>
 match r with
| .inl y =>
 some y
| .inr z =>
 some (-1) := tC
theorem F6vE (s del i j) : F6v s del i j =
 bif decide (j < (s.2.length : Int)) then
 bif decide (0 ≤ j) then
 bif decide (j < (s.2.length : Int)) then
(F3w (s.2.getD (Int.toNat j) 0) del.1 del.2.1 del.2.2.1).bind fun r =>
 bif !r then
 bif decide (0 ≤ i) then
 bif decide (i < (s.2.length : Int)) then
(F6v (s.1, (s.2.set (Int.toNat i) (s.2.getD (Int.toNat j) 0))) del (IntKind.i64.wrap (i + 1)) (IntKind.i64.wrap (j + 1))).bind fun r => some r
else none
else none
else 
(F6v (s.1, s.2) del i (IntKind.i64.wrap (j + 1))).bind fun r => some r
else none
else none
else 
 some ((s.1, s.2), i) := tL F25K
theorem F25E (s del) : F25 s del =
(Fi (s.1, s.2) del).bind fun r =>
 bif (r == (-1)) then
 some (s.1, s.2)
else 
(F6v (s.1, s.2) del r (IntKind.i64.wrap (r + 1))).bind fun r1 =>
 bif decide (0 ≤ r1.2) then
 bif decide (r1.2 ≤ (r1.1.2.length : Int)) then
 bif decide (0 ≤ r1.2) then
 bif decide (r1.2 ≤ ((r1.1.2.take (Int.toNat r1.2) ++ (List.replicate (r1.1.2.length - (Int.toNat r1.2)) (0 : Int) ++ r1.1.2.drop r1.1.2.length)).length : Int)) then
 some (r1.1.1, (((r1.1.2.take (Int.toNat r1.2) ++ (List.replicate (r1.1.2.length - (Int.toNat r1.2)) (0 : Int) ++ r1.1.2.drop r1.1.2.length)).take (Int.toNat r1.2)).drop 0))
else none
else none
else none
else none := tC
theorem F1eE (p v class_ to) : F1e p v class_ to =
(F1t v class_).bind fun r =>
(F25 (r.1, r.2) (p, (v, (to, ())))).bind fun r1 =>
 some (r1.1, r1.2) := tC
theorem F46E (n) : F46 n =
 bif decide (n < 0) then
 none
else 
 bif decide ((IntKind.i64.wrap (n - (IntKind.i64.wrap (0 - 0)))) > 0) then
 bif decide (0 ≤ (IntKind.i64.wrap (n - (IntKind.i64.wrap (0 - 0))))) then
 bif decide ((IntKind.i64.wrap (n - (IntKind.i64.wrap (0 - 0)))) ≤ lim) then
 bif decide (([] : List DNode).length + (List.replicate (Int.toNat (IntKind.i64.wrap (n - (IntKind.i64.wrap (0 - 0))))) ((0, 0) : DNode)).length ≤ lim) then
 bif decide (0 ≤ (([] ++ (List.replicate (Int.toNat (IntKind.i64.wrap (n - (IntKind.i64.wrap (0 - 0))))) ((0, 0) : DNode))).length : Int)) then
 some ((List.replicate (Int.toNat (IntKind.i64.wrap (n - (IntKind.i64.wrap (0 - 0))))) ((0, 0) : DNode)).isEmpty, ((([] ++ (List.replicate (Int.toNat (IntKind.i64.wrap (n - (IntKind.i64.wrap (0 - 0))))) ((0, 0) : DNode))).take 0).drop 0))
else none
else none
else none
else none
else 
 some (true, []) := tC
theorem F8oE (slices size_ t9 t10 t11) : F8o slices size_ t9 t10 t11 =
 bif decide (t11 < t10) then
 bif decide (0 ≤ t11) then
 bif decide (t11 < (t9.2.length : Int)) then
 bif decide ((IntKind.i64.wrap (size_ + (((t9.2.getD (Int.toNat t11) (true, [])).2).length : Int))) < 0) then
 none
else 
(F8o slices (IntKind.i64.wrap (size_ + (((t9.2.getD (Int.toNat t11) (true, [])).2).length : Int))) t9 t10 (IntKind.i64.wrap (t11 + 1))).bind fun r => some r
else none
else none
else 
 some size_ := tL F4K
theorem F8uE (newslice t25 t26 t27) : F8u newslice t25 t26 t27 =
 bif decide (t27 < t26) then
 bif decide (0 ≤ t27) then
 bif decide (t27 < (t25.2.length : Int)) then
 bif decide (newslice.2.length + ((t25.2.getD (Int.toNat t27) (true, [])).2 : List DNode).length ≤ lim) then
(F8u ((newslice.1 && ((t25.2.getD (Int.toNat t27) (true, [])).2).isEmpty), (newslice.2 ++ ((t25.2.getD (Int.toNat t27) (true, [])).2))) t25 t26 (IntKind.i64.wrap (t27 + 1))).bind fun r => some r
else none
else none
else none
else 
 some (newslice.1, newslice.2) := tL F4K
theorem F4E (slices) : F4 slices =
(F8o slices 0 slices (slices.2.length : Int) 0).bind fun r =>
(F46 r).bind fun r1 =>
(F8u (r1.1, r1.2) slices (slices.2.length : Int) 0).bind fun r2 =>
 some (r2.1, r2.2) := tC
theorem F54E (no a1 a2) : F54 no a1 a2 =
(F1p a1 no).bind fun r =>
(Fo a1 a2 (r.1, r.2)).bind fun r1 =>
 some (!r1) := tC
theorem F7rE (s f t7 t8) : F7r s f t7 t8 =
 bif decide (t8 < t7) then
 bif decide (0 ≤ t8) then
 bif decide (t8 < (s.2.length : Int)) then
(F54 (s.2.getD (Int.toNat t8) 0) f.1 f.2.1).bind fun r =>
 bif r then
 some (.inl t8)
else 
(F7r s f t7 (IntKind.i64.wrap (t8 + 1))).bind fun r => some r
else none
else none
else 
 some (.inr ()) := tL F3aK
theorem F3aE (s f) : F3a s f =
(F7r s f (s.2.length : Int) 0).bind fun r =>
 match r with
| .inl y =>
 some y
| .inr z =>
 some (-1) := tC
theorem F51E (s f) : F51 s f =
(F3a s f).bind fun r =>
 some (decide (r ≥ 0)) := tC
theorem F1lE (p t some_) : F1l p t some_ =
(F51 some_ (p, (t, ()))).bind fun r =>
 some (!r) := tC
theorem F6gE (p t a b) : F6g p t a b =
(F4 (false, [t, (false, [(19, 0)])])).bind fun r =>
(F1l p t a).bind fun r1 =>
 bif r1 then
(F1l p (r.1, r.2) b).bind fun r2 =>
 bif r2 then
 some true
else 
(F1l p (r.1, r.2) a).bind fun r3 =>
 bif r3 then
(F1l p t b).bind fun r4 =>
 some r4
else 
 some false
else 
(F1l p (r.1, r.2) a).bind fun r5 =>
 bif r5 then
(F1l p t b).bind fun r6 =>
 some r6
else 
 some false := tC
theorem F72E (t a1 a2 a3) : F72 t a1 a2 a3 =
(F6g a1 t a2 a3).bind fun r =>
 some r := tC
theorem F92E (s f t7 t8) : F92 s f t7 t8 =
 bif decide (t8 < t7) then
 bif decide (0 ≤ t8) then
 bif decide (t8 < (s.2.length : Int)) then
(F72 (s.2.getD (Int.toNat t8) (true, [])) f.1 f.2.1 f.2.2.1).bind fun r =>
 bif r then
 some (.inl t8)
else 
(F92 s f t7 (IntKind.i64.wrap (t8 + 1))).bind fun r => some r
else none
else none
else 
 some (.inr ()) := tL F38K
theorem F38E (s f) : F38 s f =
(F92 s f (s.2.length : Int) 0).bind fun r =>
 match r with
| .inl y =>
 some y
| .inr z =>
 some (-1) := tC
theorem F44E (p terms a b) : F44 p terms a b =
(F38 terms (p, (a, (b, ())))).bind fun r =>
 some r := tC
theorem F7nE (v t4 in_ t13 t14 t15) : F7n v t4 in_ t13 t14 t15 =
 bif decide (t15 < t14) then
 bif decide (0 ≤ t15) then
 bif decide (t15 < (t13.2.length : Int)) then
 bif decide (0 ≤ (t13.2.getD (Int.toNat t15) 0)) then
 bif decide ((t13.2.getD (Int.toNat t15) 0) < (in_.2.length : Int)) then
(F7n v t4 (in_.1, (in_.2.set (Int.toNat (t13.2.getD (Int.toNat t15) 0)) 1)) t13 t14 (IntKind.i64.wrap (t15 + 1))).bind fun r => some r
else none
else none
else none
else none
else 
 some (in_.1, in_.2) := tL F3bK
theorem F3bE (v some_) : F3b v some_ =
 bif decide (0 ≤ (v.2.length : Int)) then
 bif decide ((v.2.length : Int) ≤ lim) then
 bif decide ((v.2.length : Int) ≤ (v.2.length : Int)) then
 bif decide ((v.2.length : Int) ≤ lim) then
(F7n v (true, []) (false, (List.replicate (Int.toNat (v.2.length : Int)) (0 : Int))) some_ (some_.2.length : Int) 0).bind fun r =>
(F22 v (r.1, r.2)).bind fun r1 =>
 some (r1.1, r1.2)
else none
else none
else none
else none := tC
theorem F6sE (p v preds path) : F6s p v preds path =
(F5m p v path).bind fun r =>
 bif !r.2 then
 some ((true, []), (0, false))
else 
(F8 p v path).bind fun r1 =>
(F2z (r1.1, r1.2)).bind fun r2 =>
(F5 p preds).bind fun r3 =>
 bif decide (0 ≤ (IntKind.i64.wrap (r2 - 1))) then
 bif decide ((IntKind.i64.wrap (r2 - 1)) < (path.2.length : Int)) then
 bif decide (0 ≤ r2) then
 bif decide (r2 < (path.2.length : Int)) then
(F1e p v (path.2.getD (Int.toNat (IntKind.i64.wrap (r2 - 1))) 0) (path.2.getD (Int.toNat r2) 0)).bind fun r4 =>
(F44 p (r3.1, r3.2) (r.1.1, r.1.2) (r4.1, r4.2)).bind fun r5 =>
 bif decide (r5 < 0) then
(F3b v (r.1.1, r.1.2)).bind fun r6 =>
 some ((r6.1, r6.2), ((-1), true))
else 
 bif decide (0 ≤ r5) then
 bif decide (r5 < (r3.2.length : Int)) then
(F4s p v ((r3.2.getD (Int.toNat r5) (true, [])).1, (r3.2.getD (Int.toNat r5) (true, [])).2)).bind fun r7 =>
 some ((r7.1.1, r7.1.2), (r5, true))
else none
else none
else none
else none
else none
else none := tC
theorem FabE (preds bad budget p t8 out_0 out_1 out_2 out_3) : Fab preds bad budget p t8 out_0 out_1 out_2 out_3 =
(F56 p (out_3.1, out_3.2) bad).bind fun r =>
 bif r.1 then
 some (1, ((out_1.1, out_1.2), (out_2, (out_3.1, out_3.2))))
else 
(F2 p (out_3.1, out_3.2) (r.1, r.2)).bind fun r1 =>
 bif !r1.1 then
 some (2, ((r1.1, r1.2), (out_2, (out_3.1, out_3.2))))
else 
 bif (out_2 == budget) then
 some (3, ((out_1.1, out_1.2), (out_2, (out_3.1, out_3.2))))
else 
(F6s p (out_3.1, out_3.2) preds (r.1, r.2)).bind fun r2 =>
(Fab preds bad budget p t8 out_0 (out_1.1, out_1.2) (IntKind.i64.wrap (out_2 + 1)) (r2.1.1, r2.1.2)).bind fun r => some r := tL F3iK
theorem F3iE (p preds bad budget) : F3i p preds bad budget =
(F17 (false, [preds, (false, [bad])])).bind fun r =>
(F3q p (r.1, r.2)).bind fun r1 =>
(Fab preds bad budget p (0, ((true, []), (0, (true, [])))) 0 (true, []) 0 (r1.1, r1.2)).bind fun r2 =>
 some (r2.1, ((r2.2.1.1, r2.2.1.2), (r2.2.2.1, (r2.2.2.2.1, r2.2.2.2.2)))) := tC
theorem F5wE (out t11 t12 t13) : F5w out t11 t12 t13 =
 bif decide (t13 < t12) then
 bif decide (0 ≤ t13) then
 bif decide (t13 < (t11.2.length : Int)) then
 bif decide ((t11.2.getD (Int.toNat t13) 0) ≥ 0) then
 bif decide (out.2.length + [t13].length ≤ lim) then
(F5w ((out.1 && false), (out.2 ++ [t13])) t11 t12 (IntKind.i64.wrap (t13 + 1))).bind fun r => some r
else none
else 
(F5w (out.1, out.2) t11 t12 (IntKind.i64.wrap (t13 + 1))).bind fun r => some r
else none
else none
else 
 some (out.1, out.2) := tL F2gK
theorem F2gE (g some_) : F2g g some_ =
(Fj g some_).bind fun r =>
(F5w (false, []) (r.1, r.2) (r.2.length : Int) 0).bind fun r1 =>
 some (r1.1, r1.2) := tC
theorem F6cE (p v) : F6c p v =
(F2i p v).bind fun r =>
(F1g p p.2.2.1).bind fun r1 =>
(F1m v (r1.1, r1.2)).bind fun r2 =>
(F2g (r.1, r.2) (r2.1, r2.2)).bind fun r3 =>
 some (r3.1, r3.2) := tC
theorem F70E (out classes t36 t37 t38) : F70 out classes t36 t37 t38 =
 bif decide (t38 < t37) then
 bif decide (0 ≤ t38) then
 bif decide (t38 < (t36.2.length : Int)) then
(F4a classes (t36.2.getD (Int.toNat t38) 0)).bind fun r =>
 bif r then
 bif decide (out.2.length + [t38].length ≤ lim) then
(F70 ((out.1 && false), (out.2 ++ [t38])) classes t36 t37 (IntKind.i64.wrap (t38 + 1))).bind fun r => some r
else none
else 
(F70 (out.1, out.2) classes t36 t37 (IntKind.i64.wrap (t38 + 1))).bind fun r => some r
else none
else none
else 
 some (out.1, out.2) := tL F1xK
theorem F1xE (p preds bad budget) : F1x p preds bad budget =
(F57 p preds bad budget).bind fun r =>
 bif !r then
 some ((true, []), false)
else 
(F3i p preds bad budget).bind fun r1 =>
 bif (r1.1 != 1) then
 some ((true, []), false)
else 
(F6c p (r1.2.2.2.1, r1.2.2.2.2)).bind fun r2 =>
(F70 (false, []) (r2.1, r2.2) (r1.2.2.2.1, r1.2.2.2.2) (r1.2.2.2.2.length : Int) 0).bind fun r3 =>
 some ((r3.1, r3.2), true) := tC
theorem F8iE (a b i) : F8i a b i =
 bif decide (i < (a.2.length : Int)) then
 bif decide (0 ≤ i) then
 bif decide (i < (a.2.length : Int)) then
 bif decide (0 ≤ i) then
 bif decide (i < (b.2.length : Int)) then
 bif ((a.2.getD (Int.toNat i) 0) != (b.2.getD (Int.toNat i) 0)) then
 some (.inl false)
else 
(F8i a b (IntKind.i64.wrap (i + 1))).bind fun r => some r
else none
else none
else none
else none
else 
 some (.inr ()) := tL F1sK
theorem F1sE (a b) : F1s a b =
 bif ((a.2.length : Int) != (b.2.length : Int)) then
 some false
else 
(F8i a b 0).bind fun r =>
 match r with
| .inl y =>
 some y
| .inr z =>
 some true := tC
theorem F7E (a b) : F7 a b =
 bif (a.1 != b.1) then
 some false
else 
 bif (a.2 != b.2) then
 some false
else 
 some true := tC
theorem F9hE (a b i) : F9h a b i =
 bif decide (i < (a.2.length : Int)) then
 bif decide (0 ≤ i) then
 bif decide (i < (a.2.length : Int)) then
 bif decide (0 ≤ i) then
 bif decide (i < (b.2.length : Int)) then
(F7 (a.2.getD (Int.toNat i) (0, 0)) (b.2.getD (Int.toNat i) (0, 0))).bind fun r =>
 bif !r then
 some (.inl false)
else 
(F9h a b (IntKind.i64.wrap (i + 1))).bind fun r => some r
else none
else none
else none
else none
else 
 some (.inr ()) := tL FbK
theorem FbE (a b) : Fb a b =
 bif ((a.2.length : Int) != (b.2.length : Int)) then
 some false
else 
(F9h a b 0).bind fun r =>
 match r with
| .inl y =>
 some y
| .inr z =>
 some true := tC
theorem F11E (a b) : F11 a b =
 bif (a.1 != b.1) then
 some false
else 
(Fb a.2 b.2).bind fun r =>
 bif !r then
 some false
else 
 some true := tC
theorem F7pE (a b i) : F7p a b i =
 bif decide (i < (a.2.length : Int)) then
 bif decide (0 ≤ i) then
 bif decide (i < (a.2.length : Int)) then
 bif decide (0 ≤ i) then
 bif decide (i < (b.2.length : Int)) then
(F11 (a.2.getD (Int.toNat i) (0, (true, []))) (b.2.getD (Int.toNat i) (0, (true, [])))).bind fun r =>
 bif !r then
 some (.inl false)
else 
(F7p a b (IntKind.i64.wrap (i + 1))).bind fun r => some r
else none
else none
else none
else none
else 
 some (.inr ()) := tL F34K
theorem F34E (a b) : F34 a b =
 bif ((a.2.length : Int) != (b.2.length : Int)) then
 some false
else 
(F7p a b 0).bind fun r =>
 match r with
| .inl y =>
 some y
| .inr z =>
 some true := tC
theorem F16E (a b) : F16 a b =
(Fb a.1 b.1).bind fun r =>
 bif !r then
 some false
else 
(F34 a.2 b.2).bind fun r1 =>
 bif !r1 then
 some false
else 
 some true := tC
theorem F7uE (a b i) : F7u a b i =
 bif decide (i < (a.2.length : Int)) then
 bif decide (0 ≤ i) then
 bif decide (i < (a.2.length : Int)) then
 bif decide (0 ≤ i) then
 bif decide (i < (b.2.length : Int)) then
(F16 (a.2.getD (Int.toNat i) ((true, []), (true, []))) (b.2.getD (Int.toNat i) ((true, []), (true, [])))).bind fun r =>
 bif !r then
 some (.inl false)
else 
(F7u a b (IntKind.i64.wrap (i + 1))).bind fun r => some r
else none
else none
else none
else none
else 
 some (.inr ()) := tL F3sK
theorem F3sE (a b) : F3s a b =
 bif ((a.2.length : Int) != (b.2.length : Int)) then
 some false
else 
(F7u a b 0).bind fun r =>
 match r with
| .inl y =>
 some y
| .inr z =>
 some true := tC
theorem F5hE (a b) : F5h a b =
 bif (a.1 != b.1) then
 some false
else 
 bif (a.2.1 != b.2.1) then
 some false
else 
(Fb a.2.2.1 b.2.2.1).bind fun r =>
 bif !r then
 some false
else 
(F3s a.2.2.2 b.2.2.2).bind fun r1 =>
 bif !r1 then
 some false
else 
 some true := tC
theorem F9bE (a b i) : F9b a b i =
 bif decide (i < (a.2.length : Int)) then
 bif decide (0 ≤ i) then
 bif decide (i < (a.2.length : Int)) then
 bif decide (0 ≤ i) then
 bif decide (i < (b.2.length : Int)) then
(Fb (a.2.getD (Int.toNat i) (true, [])) (b.2.getD (Int.toNat i) (true, []))).bind fun r =>
 bif !r then
 some (.inl false)
else 
(F9b a b (IntKind.i64.wrap (i + 1))).bind fun r => some r
else none
else none
else none
else none
else 
 some (.inr ()) := tL F3hK
theorem F3hE (a b) : F3h a b =
 bif ((a.2.length : Int) != (b.2.length : Int)) then
 some false
else 
(F9b a b 0).bind fun r =>
 match r with
| .inl y =>
 some y
| .inr z =>
 some true := tC
theorem F8kE (a k_ i) : F8k a k_ i =
 bif decide (i < (a.2.length : Int)) then
 bif decide (0 ≤ i) then
 bif decide (i < (a.2.length : Int)) then
 bif decide (0 ≤ i) then
 bif decide (i < ((a.2.set (Int.toNat i) (k_, (a.2.getD (Int.toNat i) (0, 0)).2)).length : Int)) then
(F8k (a.1, ((a.2.set (Int.toNat i) (k_, (a.2.getD (Int.toNat i) (0, 0)).2)).set (Int.toNat i) (((a.2.set (Int.toNat i) (k_, (a.2.getD (Int.toNat i) (0, 0)).2)).getD (Int.toNat i) (0, 0)).1, IntKind.u64.wrap (IntKind.i64.wrap (k_ + 1))))) (IntKind.i64.wrap ((IntKind.i64.wrap (k_ + 1)) + 1)) (IntKind.i64.wrap (i + 1))).bind fun r => some r
else none
else none
else none
else none
else 
 some ((a.1, a.2), k_) := tL FcK
theorem FcE (a k_) : Fc a k_ =
(F8k (a.1, a.2) k_ 0).bind fun r =>
 some ((r.1.1, r.1.2), r.2) := tC
theorem F8yE (a k_ i) : F8y a k_ i =
 bif decide (i < (a.2.length : Int)) then
 bif decide (0 ≤ i) then
 bif decide (i < (a.2.length : Int)) then
 bif decide (0 ≤ i) then
 bif decide (i < ((a.2.set (Int.toNat i) (k_, (a.2.getD (Int.toNat i) (0, (true, []))).2)).length : Int)) then
(Fc ((((a.2.set (Int.toNat i) (k_, (a.2.getD (Int.toNat i) (0, (true, []))).2)).getD (Int.toNat i) (0, (true, []))).2).1, (((a.2.set (Int.toNat i) (k_, (a.2.getD (Int.toNat i) (0, (true, []))).2)).getD (Int.toNat i) (0, (true, []))).2).2) (IntKind.i64.wrap (k_ + 1))).bind fun r =>
(F8y (a.1, ((a.2.set (Int.toNat i) (k_, (a.2.getD (Int.toNat i) (0, (true, []))).2)).set (Int.toNat i) (((a.2.set (Int.toNat i) (k_, (a.2.getD (Int.toNat i) (0, (true, []))).2)).getD (Int.toNat i) (0, (true, []))).1, (r.1.1, r.1.2)))) r.2 (IntKind.i64.wrap (i + 1))).bind fun r => some r
else none
else none
else none
else none
else 
 some ((a.1, a.2), k_) := tL F31K
theorem F31E (a k_) : F31 a k_ =
(F8y (a.1, a.2) k_ 0).bind fun r =>
 some ((r.1.1, r.1.2), r.2) := tC
theorem F7iE (a k_ i) : F7i a k_ i =
 bif decide (i < (a.2.length : Int)) then
 bif decide (0 ≤ i) then
 bif decide (i < (a.2.length : Int)) then
(Fc (((a.2.getD (Int.toNat i) ((true, []), (true, []))).1).1, ((a.2.getD (Int.toNat i) ((true, []), (true, []))).1).2) k_).bind fun r =>
 bif decide (0 ≤ i) then
 bif decide (i < (a.2.length : Int)) then
(F31 ((((a.2.set (Int.toNat i) ((r.1.1, r.1.2), (a.2.getD (Int.toNat i) ((true, []), (true, []))).2)).getD (Int.toNat i) ((true, []), (true, []))).2).1, (((a.2.set (Int.toNat i) ((r.1.1, r.1.2), (a.2.getD (Int.toNat i) ((true, []), (true, []))).2)).getD (Int.toNat i) ((true, []), (true, []))).2).2) r.2).bind fun r1 =>
(F7i (a.1, ((a.2.set (Int.toNat i) ((r.1.1, r.1.2), (a.2.getD (Int.toNat i) ((true, []), (true, []))).2)).set (Int.toNat i) (((a.2.set (Int.toNat i) ((r.1.1, r.1.2), (a.2.getD (Int.toNat i) ((true, []), (true, []))).2)).getD (Int.toNat i) ((true, []), (true, []))).1, (r1.1.1, r1.1.2)))) r1.2 (IntKind.i64.wrap (i + 1))).bind fun r => some r
else none
else none
else none
else none
else 
 some ((a.1, a.2), k_) := tL F2nK
theorem F2nE (a k_) : F2n a k_ =
(F7i (a.1, a.2) k_ 0).bind fun r =>
 some ((r.1.1, r.1.2), r.2) := tC
theorem F73E (a0_0 a0_1 a0_2 a0_3 k_) : F73 a0_0 a0_1 a0_2 a0_3 k_ =
(Fc (a0_2.1, a0_2.2) k_).bind fun r =>
(F2n (a0_3.1, a0_3.2) r.2).bind fun r1 =>
 some ((r.1.1, r.1.2), ((r1.1.1, r1.1.2), r1.2)) := tC
theorem F9xE (a k_ i) : F9x a k_ i =
 bif decide (i < (a.2.length : Int)) then
 bif decide (0 ≤ i) then
 bif decide (i < (a.2.length : Int)) then
(Fc ((a.2.getD (Int.toNat i) (true, [])).1, (a.2.getD (Int.toNat i) (true, [])).2) k_).bind fun r =>
(F9x (a.1, (a.2.set (Int.toNat i) (r.1.1, r.1.2))) r.2 (IntKind.i64.wrap (i + 1))).bind fun r => some r
else none
else none
else 
 some ((a.1, a.2), k_) := tL F33K
theorem F33E (a k_) : F33 a k_ =
(F9x (a.1, a.2) k_ 0).bind fun r =>
 some ((r.1.1, r.1.2), r.2) := tC
theorem F9sE (a k_ i) : F9s a k_ i =
 bif decide (i < (a.2.length : Int)) then
 bif decide (0 ≤ i) then
 bif decide (i < (a.2.length : Int)) then
(F9s (a.1, (a.2.set (Int.toNat i) k_)) (IntKind.i64.wrap (k_ + 1)) (IntKind.i64.wrap (i + 1))).bind fun r => some r
else none
else none
else 
 some ((a.1, a.2), k_) := tL F3tK
theorem F3tE (a k_) : F3t a k_ =
(F9s (a.1, a.2) k_ 0).bind fun r =>
 some ((r.1.1, r.1.2), r.2) := tC
theorem F83E (a k_ i) : F83 a k_ i =
 bif decide (i < (a.2.length : Int)) then
 bif decide (0 ≤ i) then
 bif decide (i < (a.2.length : Int)) then
 bif ((a.2.getD (Int.toNat i) 0) != k_) then
 some (.inl (-1))
else 
(F83 a (IntKind.i64.wrap (k_ + 1)) (IntKind.i64.wrap (i + 1))).bind fun r => some r
else none
else none
else 
 some (.inr k_) := tL F2dK
theorem F2dE (a k_) : F2d a k_ =
(F83 a k_ 0).bind fun r =>
 match r with
| .inl y =>
 some y
| .inr z =>
 some z := tC
theorem F9aE (aP aPreds aBad aBudget) : F9a aP aPreds aBad aBudget =
(F6p aP 1048576).bind fun r =>
 bif decide (r < 0) then
 some true
else 
(F30 aPreds r).bind fun r1 =>
 bif decide (r1 < 0) then
 some true
else 
(Fp aBad r1).bind fun r2 =>
 bif decide (r2 < 0) then
 some true
else 
(F4b aP).bind fun r3 =>
(F1n aPreds).bind fun r4 =>
(F6 aBad).bind fun r5 =>
(F7b (r3.1, (r3.2.1, ((r3.2.2.1.1, r3.2.2.1.2), (r3.2.2.2.1, r3.2.2.2.2)))) (r4.1, r4.2) (r5.1, r5.2) aBudget).bind fun r6 =>
(F4b aP).bind fun r7 =>
(F1n aPreds).bind fun r8 =>
(F6 aBad).bind fun r9 =>
(F1x (r7.1, (r7.2.1, ((r7.2.2.1.1, r7.2.2.1.2), (r7.2.2.2.1, r7.2.2.2.2)))) (r8.1, r8.2) (r9.1, r9.2) aBudget).bind fun r10 =>
(F1s (r10.1.1, r10.1.2) (r6.1.1, r6.1.2)).bind fun r11 =>
 bif !r11 then
 some false
else 
 bif !(r10.2 == r6.2) then
 some false
else 
(F4b aP).bind fun r12 =>
(F5h (r7.1, (r7.2.1, ((r7.2.2.1.1, r7.2.2.1.2), (r7.2.2.2.1, r7.2.2.2.2)))) (r12.1, (r12.2.1, ((r12.2.2.1.1, r12.2.2.1.2), (r12.2.2.2.1, r12.2.2.2.2))))).bind fun r13 =>
 bif !r13 then
 some false
else 
(F1n aPreds).bind fun r14 =>
(F3h (r8.1, r8.2) (r14.1, r14.2)).bind fun r15 =>
 bif !r15 then
 some false
else 
(F6 aBad).bind fun r16 =>
(Fb (r9.1, r9.2) (r16.1, r16.2)).bind fun r17 =>
 bif !r17 then
 some false
else 
(F73 r7.1 r7.2.1 (r7.2.2.1.1, r7.2.2.1.2) (r7.2.2.2.1, r7.2.2.2.2) 1).bind fun r18 =>
(F33 (r8.1, r8.2) r18.2.2).bind fun r19 =>
(Fc (r9.1, r9.2) r19.2).bind fun r20 =>
 bif decide (r20.2 < 0) then
 some false
else 
(F1s (r10.1.1, r10.1.2) (r6.1.1, r6.1.2)).bind fun r21 =>
 bif !r21 then
 some false
else 
 bif !(r10.2 == r6.2) then
 some false
else 
(F3t (r10.1.1, r10.1.2) 1).bind fun r22 =>
(F2d (r22.1.1, r22.1.2) 1).bind fun r23 =>
 bif decide (r23 < 0) then
 some false
else 
 bif (r23 != r22.2) then
 some false
else 
(F4b aP).bind fun r24 =>
(F1n aPreds).bind fun r25 =>
(F6 aBad).bind fun r26 =>
(F1x (r24.1, (r24.2.1, ((r24.2.2.1.1, r24.2.2.1.2), (r24.2.2.2.1, r24.2.2.2.2)))) (r25.1, r25.2) (r26.1, r26.2) aBudget).bind fun r27 =>
(F1s (r27.1.1, r27.1.2) (r6.1.1, r6.1.2)).bind fun r28 =>
 bif !r28 then
 some false
else 
 bif !(r27.2 == r6.2) then
 some false
else 
(F2d (r22.1.1, r22.1.2) 1).bind fun r29 =>
 bif decide (r29 < 0) then
 some false
else 
 bif (r29 != r22.2) then
 some false
else 
 some true := tC
theorem fit : Fit Tryz.prog H := Jgx (exts := extsL) (tys := tysL) (cells := cellsL) (keys := keysL) (mtys := mtysL) rfl rfl rfl rfl rfl (by kernel_rfl) (by kernel_rfl) (by kernel_rfl) ⟨⟨Tryz.func38, by kernel_rfl, by kernel_rfl⟩, ⟨Tryz.func287, by kernel_rfl, by kernel_rfl⟩, ⟨Tryz.func211, by kernel_rfl, by kernel_rfl⟩, ⟨Tryz.func135, by kernel_rfl, by kernel_rfl⟩, ⟨Tryz.func69, by kernel_rfl, by kernel_rfl⟩, ⟨Tryz.func24, by kernel_rfl, by kernel_rfl⟩, ⟨Tryz.func12, by kernel_rfl, by kernel_rfl⟩, ⟨Tryz.func89, by kernel_rfl, by kernel_rfl⟩, ⟨Tryz.func40, by kernel_rfl, by kernel_rfl⟩, ⟨Tryz.func288, by kernel_rfl, by kernel_rfl⟩, ⟨Tryz.func217, by kernel_rfl, by kernel_rfl⟩, ⟨Tryz.func141, by kernel_rfl, by kernel_rfl⟩, ⟨Tryz.func75, by kernel_rfl, by kernel_rfl⟩, ⟨Tryz.func27, by kernel_rfl, by kernel_rfl⟩, ⟨Tryz.func15, by kernel_rfl, by kernel_rfl⟩, ⟨Tryz.func116, by kernel_rfl, by kernel_rfl⟩, ⟨Tryz.func272, by kernel_rfl, by kernel_rfl⟩, ⟨Tryz.func273, by kernel_rfl, by kernel_rfl⟩, ⟨Tryz.func307, by kernel_rfl, by kernel_rfl⟩, ⟨Tryz.func330, by kernel_rfl, by kernel_rfl⟩, ⟨Tryz.func274, by kernel_rfl, by kernel_rfl⟩, ⟨Tryz.func203, by kernel_rfl, by kernel_rfl⟩, ⟨Tryz.func123, by kernel_rfl, by kernel_rfl⟩, ⟨Tryz.func269, by kernel_rfl, by kernel_rfl⟩, ⟨Tryz.func200, by kernel_rfl, by kernel_rfl⟩, ⟨Tryz.func121, by kernel_rfl, by kernel_rfl⟩, ⟨Tryz.func60, by kernel_rfl, by kernel_rfl⟩, ⟨Tryz.func84, by kernel_rfl, by kernel_rfl⟩, ⟨Tryz.func159, by kernel_rfl, by kernel_rfl⟩, ⟨Tryz.func176, by kernel_rfl, by kernel_rfl⟩, ⟨Tryz.func309, by kernel_rfl, by kernel_rfl⟩, ⟨Tryz.func369, by kernel_rfl, by kernel_rfl⟩, ⟨Tryz.func343, by kernel_rfl, by kernel_rfl⟩, ⟨Tryz.func344, by kernel_rfl, by kernel_rfl⟩, ⟨Tryz.func345, by kernel_rfl, by kernel_rfl⟩, ⟨Tryz.func346, by kernel_rfl, by kernel_rfl⟩, ⟨Tryz.func308, by kernel_rfl, by kernel_rfl⟩, ⟨Tryz.func240, by kernel_rfl, by kernel_rfl⟩, ⟨Tryz.func175, by kernel_rfl, by kernel_rfl⟩, ⟨Tryz.func99, by kernel_rfl, by kernel_rfl⟩, ⟨Tryz.func98, by kernel_rfl, by kernel_rfl⟩, ⟨Tryz.func198, by kernel_rfl, by kernel_rfl⟩, ⟨Tryz.func118, by kernel_rfl, by kernel_rfl⟩, ⟨Tryz.func85, by kernel_rfl, by kernel_rfl⟩, ⟨Tryz.func86, by kernel_rfl, by kernel_rfl⟩, ⟨Tryz.func213, by kernel_rfl, by kernel_rfl⟩, ⟨Tryz.func160, by kernel_rfl, by kernel_rfl⟩, ⟨Tryz.func188, by kernel_rfl, by kernel_rfl⟩, ⟨Tryz.func189, by kernel_rfl, by kernel_rfl⟩, ⟨Tryz.func214, by kernel_rfl, by kernel_rfl⟩, ⟨Tryz.func216, by kernel_rfl, by kernel_rfl⟩, ⟨Tryz.func215, by kernel_rfl, by kernel_rfl⟩, ⟨Tryz.func140, by kernel_rfl, by kernel_rfl⟩, ⟨Tryz.func138, by kernel_rfl, by kernel_rfl⟩, ⟨Tryz.func228, by kernel_rfl, by kernel_rfl⟩, ⟨Tryz.func162, by kernel_rfl, by kernel_rfl⟩, ⟨Tryz.func227, by kernel_rfl, by kernel_rfl⟩, ⟨Tryz.func156, by kernel_rfl, by kernel_rfl⟩, ⟨Tryz.func226, by kernel_rfl, by kernel_rfl⟩, ⟨Tryz.func161, by kernel_rfl, by kernel_rfl⟩, ⟨Tryz.func87, by kernel_rfl, by kernel_rfl⟩, ⟨Tryz.func72, by kernel_rfl, by kernel_rfl⟩, ⟨Tryz.func73, by kernel_rfl, by kernel_rfl⟩, ⟨Tryz.func139, by kernel_rfl, by kernel_rfl⟩, ⟨Tryz.func74, by kernel_rfl, by kernel_rfl⟩, ⟨Tryz.func292, by kernel_rfl, by kernel_rfl⟩, ⟨Tryz.func229, by kernel_rfl, by kernel_rfl⟩, ⟨Tryz.func338, by kernel_rfl, by kernel_rfl⟩, ⟨Tryz.func339, by kernel_rfl, by kernel_rfl⟩, ⟨Tryz.func293, by kernel_rfl, by kernel_rfl⟩, ⟨Tryz.func230, by kernel_rfl, by kernel_rfl⟩, ⟨Tryz.func163, by kernel_rfl, by kernel_rfl⟩, ⟨Tryz.func165, by kernel_rfl, by kernel_rfl⟩, ⟨Tryz.func294, by kernel_rfl, by kernel_rfl⟩, ⟨Tryz.func231, by kernel_rfl, by kernel_rfl⟩, ⟨Tryz.func164, by kernel_rfl, by kernel_rfl⟩, ⟨Tryz.func88, by kernel_rfl, by kernel_rfl⟩, ⟨Tryz.func39, by kernel_rfl, by kernel_rfl⟩, ⟨Tryz.func168, by kernel_rfl, by kernel_rfl⟩, ⟨Tryz.func94, by kernel_rfl, by kernel_rfl⟩, ⟨Tryz.func93, by kernel_rfl, by kernel_rfl⟩, ⟨Tryz.func47, by kernel_rfl, by kernel_rfl⟩, ⟨Tryz.func275, by kernel_rfl, by kernel_rfl⟩, ⟨Tryz.func276, by kernel_rfl, by kernel_rfl⟩, ⟨Tryz.func334, by kernel_rfl, by kernel_rfl⟩, ⟨Tryz.func183, by kernel_rfl, by kernel_rfl⟩, ⟨Tryz.func364, by kernel_rfl, by kernel_rfl⟩, ⟨Tryz.func335, by kernel_rfl, by kernel_rfl⟩, ⟨Tryz.func336, by kernel_rfl, by kernel_rfl⟩, ⟨Tryz.func152, by kernel_rfl, by kernel_rfl⟩, ⟨Tryz.func144, by kernel_rfl, by kernel_rfl⟩, ⟨Tryz.func284, by kernel_rfl, by kernel_rfl⟩, ⟨Tryz.func285, by kernel_rfl, by kernel_rfl⟩, ⟨Tryz.func208, by kernel_rfl, by kernel_rfl⟩, ⟨Tryz.func129, by kernel_rfl, by kernel_rfl⟩, ⟨Tryz.func279, by kernel_rfl, by kernel_rfl⟩, ⟨Tryz.func278, by kernel_rfl, by kernel_rfl⟩, ⟨Tryz.func331, by kernel_rfl, by kernel_rfl⟩, ⟨Tryz.func277, by kernel_rfl, by kernel_rfl⟩, ⟨Tryz.func204, by kernel_rfl, by kernel_rfl⟩, ⟨Tryz.func125, by kernel_rfl, by kernel_rfl⟩, ⟨Tryz.func130, by kernel_rfl, by kernel_rfl⟩, ⟨Tryz.func207, by kernel_rfl, by kernel_rfl⟩, ⟨Tryz.func127, by kernel_rfl, by kernel_rfl⟩, ⟨Tryz.func64, by kernel_rfl, by kernel_rfl⟩, ⟨Tryz.func119, by kernel_rfl, by kernel_rfl⟩, ⟨Tryz.func90, by kernel_rfl, by kernel_rfl⟩, ⟨Tryz.func133, by kernel_rfl, by kernel_rfl⟩, ⟨Tryz.func66, by kernel_rfl, by kernel_rfl⟩, ⟨Tryz.func131, by kernel_rfl, by kernel_rfl⟩, ⟨Tryz.func106, by kernel_rfl, by kernel_rfl⟩, ⟨Tryz.func347, by kernel_rfl, by kernel_rfl⟩, ⟨Tryz.func348, by kernel_rfl, by kernel_rfl⟩, ⟨Tryz.func311, by kernel_rfl, by kernel_rfl⟩, ⟨Tryz.func312, by kernel_rfl, by kernel_rfl⟩, ⟨Tryz.func313, by kernel_rfl, by kernel_rfl⟩, ⟨Tryz.func314, by kernel_rfl, by kernel_rfl⟩, ⟨Tryz.func243, by kernel_rfl, by kernel_rfl⟩, ⟨Tryz.func182, by kernel_rfl, by kernel_rfl⟩, ⟨Tryz.func286, by kernel_rfl, by kernel_rfl⟩, ⟨Tryz.func209, by kernel_rfl, by kernel_rfl⟩, ⟨Tryz.func218, by kernel_rfl, by kernel_rfl⟩, ⟨Tryz.func142, by kernel_rfl, by kernel_rfl⟩, ⟨Tryz.func210, by kernel_rfl, by kernel_rfl⟩, ⟨Tryz.func132, by kernel_rfl, by kernel_rfl⟩, ⟨Tryz.func65, by kernel_rfl, by kernel_rfl⟩, ⟨Tryz.func219, by kernel_rfl, by kernel_rfl⟩, ⟨Tryz.func143, by kernel_rfl, by kernel_rfl⟩, ⟨Tryz.func304, by kernel_rfl, by kernel_rfl⟩, ⟨Tryz.func105, by kernel_rfl, by kernel_rfl⟩, ⟨Tryz.func337, by kernel_rfl, by kernel_rfl⟩, ⟨Tryz.func290, by kernel_rfl, by kernel_rfl⟩, ⟨Tryz.func289, by kernel_rfl, by kernel_rfl⟩, ⟨Tryz.func282, by kernel_rfl, by kernel_rfl⟩, ⟨Tryz.func283, by kernel_rfl, by kernel_rfl⟩, ⟨Tryz.func222, by kernel_rfl, by kernel_rfl⟩, ⟨Tryz.func220, by kernel_rfl, by kernel_rfl⟩, ⟨Tryz.func171, by kernel_rfl, by kernel_rfl⟩, ⟨Tryz.func239, by kernel_rfl, by kernel_rfl⟩, ⟨Tryz.func170, by kernel_rfl, by kernel_rfl⟩, ⟨Tryz.func172, by kernel_rfl, by kernel_rfl⟩, ⟨Tryz.func295, by kernel_rfl, by kernel_rfl⟩, ⟨Tryz.func322, by kernel_rfl, by kernel_rfl⟩, ⟨Tryz.func259, by kernel_rfl, by kernel_rfl⟩, ⟨Tryz.func193, by kernel_rfl, by kernel_rfl⟩, ⟨Tryz.func158, by kernel_rfl, by kernel_rfl⟩, ⟨Tryz.func238, by kernel_rfl, by kernel_rfl⟩, ⟨Tryz.func296, by kernel_rfl, by kernel_rfl⟩, ⟨Tryz.func152, by kernel_rfl, by kernel_rfl⟩, ⟨Tryz.func232, by kernel_rfl, by kernel_rfl⟩, ⟨Tryz.func166, by kernel_rfl, by kernel_rfl⟩, ⟨Tryz.func147, by kernel_rfl, by kernel_rfl⟩, ⟨Tryz.func221, by kernel_rfl, by kernel_rfl⟩, ⟨Tryz.func152, by kernel_rfl, by kernel_rfl⟩, ⟨Tryz.func149, by kernel_rfl, by kernel_rfl⟩, ⟨Tryz.func146, by kernel_rfl, by kernel_rfl⟩, ⟨Tryz.func224, by kernel_rfl, by kernel_rfl⟩, ⟨Tryz.func223, by kernel_rfl, by kernel_rfl⟩, ⟨Tryz.func148, by kernel_rfl, by kernel_rfl⟩, ⟨Tryz.func173, by kernel_rfl, by kernel_rfl⟩, ⟨Tryz.func96, by kernel_rfl, by kernel_rfl⟩, ⟨Tryz.func151, by kernel_rfl, by kernel_rfl⟩, ⟨Tryz.func152, by kernel_rfl, by kernel_rfl⟩, ⟨Tryz.func144, by kernel_rfl, by kernel_rfl⟩, ⟨Tryz.func150, by kernel_rfl, by kernel_rfl⟩, ⟨Tryz.func152, by kernel_rfl, by kernel_rfl⟩, ⟨Tryz.func149, by kernel_rfl, by kernel_rfl⟩, ⟨Tryz.func151, by kernel_rfl, by kernel_rfl⟩, ⟨Tryz.func152, by kernel_rfl, by kernel_rfl⟩, ⟨Tryz.func144, by kernel_rfl, by kernel_rfl⟩, ⟨Tryz.func150, by kernel_rfl, by kernel_rfl⟩, ⟨Tryz.func152, by kernel_rfl, by kernel_rfl⟩, ⟨Tryz.func149, by kernel_rfl, by kernel_rfl⟩, ⟨Tryz.func153, by kernel_rfl, by kernel_rfl⟩, ⟨Tryz.func152, by kernel_rfl, by kernel_rfl⟩, ⟨Tryz.func77, by kernel_rfl, by kernel_rfl⟩, ⟨Tryz.func233, by kernel_rfl, by kernel_rfl⟩, ⟨Tryz.func299, by kernel_rfl, by kernel_rfl⟩, ⟨Tryz.func298, by kernel_rfl, by kernel_rfl⟩, ⟨Tryz.func207, by kernel_rfl, by kernel_rfl⟩, ⟨Tryz.func127, by kernel_rfl, by kernel_rfl⟩, ⟨Tryz.func300, by kernel_rfl, by kernel_rfl⟩, ⟨Tryz.func297, by kernel_rfl, by kernel_rfl⟩, ⟨Tryz.func365, by kernel_rfl, by kernel_rfl⟩, ⟨Tryz.func207, by kernel_rfl, by kernel_rfl⟩, ⟨Tryz.func127, by kernel_rfl, by kernel_rfl⟩, ⟨Tryz.func366, by kernel_rfl, by kernel_rfl⟩, ⟨Tryz.func340, by kernel_rfl, by kernel_rfl⟩, ⟨Tryz.func301, by kernel_rfl, by kernel_rfl⟩, ⟨Tryz.func234, by kernel_rfl, by kernel_rfl⟩, ⟨Tryz.func306, by kernel_rfl, by kernel_rfl⟩, ⟨Tryz.func152, by kernel_rfl, by kernel_rfl⟩, ⟨Tryz.func144, by kernel_rfl, by kernel_rfl⟩, ⟨Tryz.func305, by kernel_rfl, by kernel_rfl⟩, ⟨Tryz.func152, by kernel_rfl, by kernel_rfl⟩, ⟨Tryz.func149, by kernel_rfl, by kernel_rfl⟩, ⟨Tryz.func236, by kernel_rfl, by kernel_rfl⟩, ⟨Tryz.func367, by kernel_rfl, by kernel_rfl⟩, ⟨Tryz.func341, by kernel_rfl, by kernel_rfl⟩, ⟨Tryz.func368, by kernel_rfl, by kernel_rfl⟩, ⟨Tryz.func152, by kernel_rfl, by kernel_rfl⟩, ⟨Tryz.func144, by kernel_rfl, by kernel_rfl⟩, ⟨Tryz.func342, by kernel_rfl, by kernel_rfl⟩, ⟨Tryz.func303, by kernel_rfl, by kernel_rfl⟩, ⟨Tryz.func302, by kernel_rfl, by kernel_rfl⟩, ⟨Tryz.func207, by kernel_rfl, by kernel_rfl⟩, ⟨Tryz.func235, by kernel_rfl, by kernel_rfl⟩, ⟨Tryz.func237, by kernel_rfl, by kernel_rfl⟩, ⟨Tryz.func167, by kernel_rfl, by kernel_rfl⟩, ⟨Tryz.func91, by kernel_rfl, by kernel_rfl⟩, ⟨Tryz.func169, by kernel_rfl, by kernel_rfl⟩, ⟨Tryz.func95, by kernel_rfl, by kernel_rfl⟩, ⟨Tryz.func48, by kernel_rfl, by kernel_rfl⟩, ⟨Tryz.func31, by kernel_rfl, by kernel_rfl⟩, ⟨Tryz.func92, by kernel_rfl, by kernel_rfl⟩, ⟨Tryz.func43, by kernel_rfl, by kernel_rfl⟩, ⟨Tryz.func291, by kernel_rfl, by kernel_rfl⟩, ⟨Tryz.func225, by kernel_rfl, by kernel_rfl⟩, ⟨Tryz.func154, by kernel_rfl, by kernel_rfl⟩, ⟨Tryz.func78, by kernel_rfl, by kernel_rfl⟩, ⟨Tryz.func32, by kernel_rfl, by kernel_rfl⟩, ⟨Tryz.func19, by kernel_rfl, by kernel_rfl⟩, ⟨Tryz.func44, by kernel_rfl, by kernel_rfl⟩, ⟨Tryz.func155, by kernel_rfl, by kernel_rfl⟩, ⟨Tryz.func79, by kernel_rfl, by kernel_rfl⟩, ⟨Tryz.func33, by kernel_rfl, by kernel_rfl⟩, ⟨Tryz.func21, by kernel_rfl, by kernel_rfl⟩, ⟨Tryz.func34, by kernel_rfl, by kernel_rfl⟩, ⟨Tryz.func35, by kernel_rfl, by kernel_rfl⟩, ⟨Tryz.func7, by kernel_rfl, by kernel_rfl⟩, trivial⟩ trivial (by kernel_rfl)
theorem nats : Jdl Tryz.prog H := Jh1 (keys := keysL) rfl ⟨.plain rfl, .plain rfl, .plain rfl, .plain rfl, .plain rfl, .plain rfl, .plain rfl, .plain rfl, .plain rfl, .plain rfl, .plain rfl, .plain rfl, .plain rfl, .plain rfl, .plain rfl, .plain rfl, .plain rfl, .plain rfl, .plain rfl, .plain rfl, .plain rfl, .plain rfl, .plain rfl, .plain rfl, .plain rfl, .plain rfl, .plain rfl, .plain rfl, .plain rfl, .plain rfl, .plain rfl, .plain rfl, .plain rfl, .plain rfl, .plain rfl, .plain rfl, .plain rfl, .plain rfl, .plain rfl, .plain rfl, .plain rfl, .plain rfl, .plain rfl, .plain rfl, .plain rfl, .plain rfl, .plain rfl, .plain rfl, .plain rfl, .plain rfl, .plain rfl, .plain rfl, .plain rfl, .plain rfl, .plain rfl, .plain rfl, .plain rfl, .plain rfl, .plain rfl, .plain rfl, .plain rfl, .plain rfl, .plain rfl, .plain rfl, .plain rfl, .plain rfl, .plain rfl, .plain rfl, .plain rfl, .plain rfl, .plain rfl, .plain rfl, .plain rfl, .plain rfl, .plain rfl, .plain rfl, .plain rfl, .plain rfl, .plain rfl, .plain rfl, .plain rfl, .plain rfl, .plain rfl, .plain rfl, .plain rfl, .plain rfl, .plain rfl, .plain rfl, .plain rfl, .plain rfl, .plain rfl, .plain rfl, .plain rfl, .plain rfl, .plain rfl, .plain rfl, .plain rfl, .plain rfl, .plain rfl, .plain rfl, .plain rfl, .plain rfl, .plain rfl, .plain rfl, .plain rfl, .plain rfl, .plain rfl, .plain rfl, .plain rfl, .plain rfl, .plain rfl, .plain rfl, .plain rfl, .plain rfl, .plain rfl, .plain rfl, .plain rfl, .plain rfl, .plain rfl, .plain rfl, .plain rfl, .plain rfl, .plain rfl, .plain rfl, .plain rfl, .plain rfl, .plain rfl, .plain rfl, .plain rfl, .plain rfl, .plain rfl, .plain rfl, .plain rfl, .sort Tryz.sortOk, .compact (by decide) Tryz.compactOk, .plain rfl, .plain rfl, .plain rfl, .plain rfl, .plain rfl, .plain rfl, .plain rfl, .plain rfl, .plain rfl, .plain rfl, .plain rfl, .plain rfl, .plain rfl, .plain rfl, .plain rfl, .plain rfl, .plain rfl, .plain rfl, .plain rfl, .plain rfl, .plain rfl, .plain rfl, .plain rfl, .plain rfl, .plain rfl, .plain rfl, .plain rfl, .plain rfl, .plain rfl, .plain rfl, .plain rfl, .plain rfl, .plain rfl, .plain rfl, .plain rfl, .plain rfl, .plain rfl, .plain rfl, .plain rfl, .plain rfl, .plain rfl, .plain rfl, .plain rfl, .plain rfl, .plain rfl, .plain rfl, .plain rfl, .plain rfl, .plain rfl, .plain rfl, .plain rfl, .plain rfl, .plain rfl, .plain rfl, .plain rfl, .plain rfl, .plain rfl, .plain rfl, .plain rfl, .plain rfl, .plain rfl, .plain rfl, .plain rfl, .plain rfl, .plain rfl, .plain rfl, .plain rfl, .plain rfl, .plain rfl, .plain rfl, .plain rfl, .plain rfl, .plain rfl, .plain rfl, .plain rfl, .plain rfl, .plain rfl, .plain rfl, .plain rfl, .plain rfl, .plain rfl, .plain rfl, .plain rfl, .plain rfl, .plain rfl, .plain rfl, .plain rfl, .plain rfl, .plain rfl, .plain rfl, .plain rfl, .plain rfl, .plain rfl, .plain rfl, .plain rfl, trivial⟩
end Go.Proofs.YtkfnlnohgfpipaaGreat.R
