/- The functions of the law FnExactNever as equations: the other part. -/
import Derived.Test.YtkfnlnohgfpipaaGreatEFnExactNeverA
import Derived.KernelRfl
set_option maxRecDepth 4000
namespace Go.Proofs.YtkfnlnohgfpipaaGreat.R
open Go.Rf Go.Proofs
theorem F2bE (s del) : F2b s del =
(F2o (s.1, s.2) del).bind fun r =>
 bif (r == (-1)) then
 some (s.1, s.2)
else 
(F73 (s.1, s.2) del r (IntKind.i64.wrap (r + 1))).bind fun r1 =>
 bif decide (0 ≤ r1.2) then
 bif decide (r1.2 ≤ (r1.1.2.length : Int)) then
 bif decide (0 ≤ r1.2) then
 bif decide (r1.2 ≤ ((r1.1.2.take (Int.toNat r1.2) ++ (List.replicate (r1.1.2.length - (Int.toNat r1.2)) (0 : Int) ++ r1.1.2.drop r1.1.2.length)).length : Int)) then
 some (r1.1.1, (((r1.1.2.take (Int.toNat r1.2) ++ (List.replicate (r1.1.2.length - (Int.toNat r1.2)) (0 : Int) ++ r1.1.2.drop r1.1.2.length)).take (Int.toNat r1.2)).drop 0))
else none
else none
else none
else none := tC
theorem F5cE (to a1 a2 a3) : F5c to a1 a2 a3 =
 bif decide (0 ≤ (IntKind.i64.wrap (a3 - 1))) then
 bif decide ((IntKind.i64.wrap (a3 - 1)) < (a2.2.length : Int)) then
 bif decide (0 ≤ (a2.2.getD (Int.toNat (IntKind.i64.wrap (a3 - 1))) 0)) then
 bif decide ((a2.2.getD (Int.toNat (IntKind.i64.wrap (a3 - 1))) 0) < (a1.2.length : Int)) then
(F4j (a1.2.getD (Int.toNat (a2.2.getD (Int.toNat (IntKind.i64.wrap (a3 - 1))) 0)) (true, [])) to).bind fun r =>
 some r
else none
else none
else none
else none := tC
theorem F8eE (s f t7 t8) : F8e s f t7 t8 =
 bif decide (t8 < t7) then
 bif decide (0 ≤ t8) then
 bif decide (t8 < (s.2.length : Int)) then
(F5c (s.2.getD (Int.toNat t8) 0) f.1 f.2.1 f.2.2.1).bind fun r =>
 bif r then
 some (.inl t8)
else 
(F8e s f t7 (IntKind.i64.wrap (t8 + 1))).bind fun r => some r
else none
else none
else 
 some (.inr ()) := tL F2lK
theorem F2lE (s f) : F2l s f =
(F8e s f (s.2.length : Int) 0).bind fun r =>
 match r with
| .inl y =>
 some y
| .inr z =>
 some (-1) := tC
theorem F7oE (along next last k_) : F7o along next last k_ =
 bif decide (k_ ≥ 0) then
 bif decide (0 ≤ k_) then
 bif decide (k_ < (along.2.length : Int)) then
(F2b ((along.2.getD (Int.toNat k_) (true, [])).1, (along.2.getD (Int.toNat k_) (true, [])).2) (next, ((along.1, (J1k along.2 (Int.toNat k_))), (k_, ())))).bind fun r =>
 bif decide (0 ≤ k_) then
 bif decide (k_ < (along.2.length : Int)) then
 bif ((Int.toNat k_) == (Int.toNat k_)) then
(F7o (along.1, (along.2.set (Int.toNat k_) (r.1, r.2))) next last (IntKind.i64.wrap (k_ - 1))).bind fun r => some r
else none
else none
else none
else none
else none
else 
 some (along.1, along.2) := tL F2K
theorem F9kE (along next last out k_) : F9k along next last out k_ =
 bif decide (k_ ≤ last) then
 bif decide (0 ≤ k_) then
 bif decide (k_ < (along.2.length : Int)) then
(F2l (along.2.getD (Int.toNat k_) (true, [])) (next, ((out.1, out.2), (k_, ())))).bind fun r =>
 bif decide (0 ≤ k_) then
 bif decide (k_ < (along.2.length : Int)) then
 bif decide (0 ≤ r) then
 bif decide (r < (((along.2.getD (Int.toNat k_) (true, [])).2).length : Int)) then
 bif decide (out.2.length + ([(((along.2.getD (Int.toNat k_) (true, [])).2).getD (Int.toNat r) 0)] : List Int).length ≤ lim) then
(F9k along next last ((out.1 && false), (out.2 ++ [(((along.2.getD (Int.toNat k_) (true, [])).2).getD (Int.toNat r) 0)])) (IntKind.i64.wrap (k_ + 1))).bind fun r => some r
else none
else none
else none
else none
else none
else none
else none
else 
 some (out.1, out.2) := tL F2K
theorem F2E (p v path) : F2 p v path =
(F8 p v path).bind fun r =>
(F24 p).bind fun r1 =>
(F35 (r.1, r.2)).bind fun r2 =>
 bif decide (r2 ≥ 0) then
 some (true, [])
else 
(F7o (r.1, r.2) (r1.1, r1.2) (IntKind.i64.wrap ((r.2.length : Int) - 1)) (IntKind.i64.wrap ((IntKind.i64.wrap ((r.2.length : Int) - 1)) - 1))).bind fun r3 =>
 bif decide (0 < (r3.2.length : Int)) then
 bif decide (0 < (((r3.2.getD 0 (true, [])).2).length : Int)) then
(F9k (r3.1, (r3.2.set 0 ((r3.2.getD 0 (true, [])).1, (r3.2.getD 0 (true, [])).2))) (r1.1, r1.2) (IntKind.i64.wrap ((r.2.length : Int) - 1)) (false, [(((r3.2.getD 0 (true, [])).2).getD 0 0)]) 1).bind fun r4 =>
 some (r4.1, r4.2)
else none
else none := tC
theorem F70E (p v path) : F70 p v path =
(F8 p v path).bind fun r =>
(F35 (r.1, r.2)).bind fun r1 =>
 bif decide (r1 < 1) then
 some ((true, []), false)
else 
 bif decide (0 ≤ (IntKind.i64.wrap (r1 - 1))) then
 bif decide ((IntKind.i64.wrap (r1 - 1)) < (r.2.length : Int)) then
 some (((r.2.getD (Int.toNat (IntKind.i64.wrap (r1 - 1))) (true, [])).1, (r.2.getD (Int.toNat (IntKind.i64.wrap (r1 - 1))) (true, [])).2), true)
else none
else none := tC
theorem F8yE (s1 s2 t12 t13) : F8y s1 s2 t12 t13 =
 bif decide (t13 < t12) then
 bif decide (0 ≤ t13) then
 bif decide (t13 < (s1.2.length : Int)) then
 bif decide (0 ≤ t13) then
 bif decide (t13 < (s2.2.length : Int)) then
 bif !((((s1.2.getD (Int.toNat t13) (0, 0)).1) == ((s2.2.getD (Int.toNat t13) (0, 0)).1)) && (((s1.2.getD (Int.toNat t13) (0, 0)).2) == ((s2.2.getD (Int.toNat t13) (0, 0)).2))) then
 some (.inl false)
else 
(F8y s1 s2 t12 (IntKind.i64.wrap (t13 + 1))).bind fun r => some r
else none
else none
else none
else none
else 
 some (.inr ()) := tL F2nK
theorem F2nE (s1 s2) : F2n s1 s2 =
 bif ((s1.2.length : Int) != (s2.2.length : Int)) then
 some false
else 
(F8y s1 s2 (s1.2.length : Int) 0).bind fun r =>
 match r with
| .inl y =>
 some y
| .inr z =>
 some true := tC
theorem F75E (own a1) : F75 own a1 =
(F2n own a1).bind fun r =>
 some r := tC
theorem F7tE (s f t7 t8) : F7t s f t7 t8 =
 bif decide (t8 < t7) then
 bif decide (0 ≤ t8) then
 bif decide (t8 < (s.2.length : Int)) then
(F75 (s.2.getD (Int.toNat t8) (true, [])) f.1).bind fun r =>
 bif r then
 some (.inl t8)
else 
(F7t s f t7 (IntKind.i64.wrap (t8 + 1))).bind fun r => some r
else none
else none
else 
 some (.inr ()) := tL F2wK
theorem F2wE (s f) : F2w s f =
(F7t s f (s.2.length : Int) 0).bind fun r =>
 match r with
| .inl y =>
 some y
| .inr z =>
 some (-1) := tC
theorem F51E (s f) : F51 s f =
(F2w s f).bind fun r =>
 some (decide (r ≥ 0)) := tC
theorem F5eE (s) : F5e s =
 bif s.1 then
 some (true, [])
else 
 bif decide (([] : List DNode).length + s.2.length ≤ lim) then
 some (false, ([] ++ s.2))
else none := tC
theorem F3uE (t a1) : F3u t a1 =
 bif decide ((a1.2.length : Int) < 40) then
(F51 (a1.1, a1.2) (t, ())).bind fun r =>
 bif !r then
(F5e t).bind fun r1 =>
 bif decide (a1.2.length + [(r1.1, r1.2)].length ≤ lim) then
 some ((a1.1 && false), (a1.2 ++ [(r1.1, r1.2)]))
else none
else 
 some (a1.1, a1.2)
else 
 some (a1.1, a1.2) := tC
theorem F5mE (own a1 a2) : F5m own a1 a2 =
(F46 a1 a2 own 1).bind fun r =>
 some (!r) := tC
theorem F7wE (s f t7 t8) : F7w s f t7 t8 =
 bif decide (t8 < t7) then
 bif decide (0 ≤ t8) then
 bif decide (t8 < (s.2.length : Int)) then
(F5m (s.2.getD (Int.toNat t8) (true, [])) f.1 f.2.1).bind fun r =>
 bif r then
 some (.inl t8)
else 
(F7w s f t7 (IntKind.i64.wrap (t8 + 1))).bind fun r => some r
else none
else none
else 
 some (.inr ()) := tL F2mK
theorem F2mE (s f) : F2m s f =
(F7w s f (s.2.length : Int) 0).bind fun r =>
 match r with
| .inl y =>
 some y
| .inr z =>
 some (-1) := tC
theorem F6oE (s f) : F6o s f =
(F2m s f).bind fun r =>
 some (decide (r ≥ 0)) := tC
theorem F5bE (wide vars t) : F5b wide vars t =
(Fu wide vars t).bind fun r =>
 bif !r then
 some ((true, []), false)
else 
 some (t, true) := tC
theorem F54E (by_ wide vars out t30 t31 t32) : F54 by_ wide vars out t30 t31 t32 =
 bif decide (t32 < t31) then
 bif decide (0 ≤ t32) then
 bif decide (t32 < (t30.2.length : Int)) then
 bif (((t30.2.getD (Int.toNat t32) (0, 0)).1) == 2) then
 bif decide (0 ≤ ((t30.2.getD (Int.toNat t32) (0, 0)).2)) then
 bif decide (((t30.2.getD (Int.toNat t32) (0, 0)).2) < (by_.2.length : Int)) then
 bif decide (out.2.length + ((by_.2.getD (Int.toNat ((t30.2.getD (Int.toNat t32) (0, 0)).2)) (true, [])).2 : List DNode).length ≤ lim) then
(F54 by_ wide vars ((out.1 && ((by_.2.getD (Int.toNat ((t30.2.getD (Int.toNat t32) (0, 0)).2)) (true, [])).2).isEmpty), (out.2 ++ ((by_.2.getD (Int.toNat ((t30.2.getD (Int.toNat t32) (0, 0)).2)) (true, [])).2))) t30 t31 (IntKind.i64.wrap (t32 + 1))).bind fun r => some r
else none
else none
else none
else 
 bif decide (out.2.length + [(t30.2.getD (Int.toNat t32) (0, 0))].length ≤ lim) then
(F54 by_ wide vars ((out.1 && false), (out.2 ++ [(t30.2.getD (Int.toNat t32) (0, 0))])) t30 t31 (IntKind.i64.wrap (t32 + 1))).bind fun r => some r
else none
else none
else none
else 
 some (out.1, out.2) := tL FzK
theorem FzE (wide vars t by_) : Fz wide vars t by_ =
(Fu wide vars t).bind fun r =>
 bif !r then
 some ((true, []), false)
else 
 bif ((by_.2.length : Int) != vars) then
 some ((true, []), false)
else 
(F6o by_ (wide, (vars, ()))).bind fun r1 =>
 bif r1 then
 some ((true, []), false)
else 
(F54 by_ wide vars (false, []) t (t.2.length : Int) 0).bind fun r2 =>
(F5b wide vars (r2.1, r2.2)).bind fun r3 =>
 some (r3.1, r3.2) := tC
theorem F93E (k_ t p by_ t14 t15) : F93 k_ t p by_ t14 t15 =
 bif decide (t15 < t14) then
 bif decide (by_.2.length + [(false, [(2, IntKind.u64.wrap t15)])].length ≤ lim) then
(F93 k_ t p ((by_.1 && false), (by_.2 ++ [(false, [(2, IntKind.u64.wrap t15)])])) t14 (IntKind.i64.wrap (t15 + 1))).bind fun r => some r
else none
else 
 some (by_.1, by_.2) := tL F17K
theorem F7bE (t p by_ t31 t32 t33) : F7b t p by_ t31 t32 t33 =
 bif decide (t33 < t32) then
 bif decide (0 ≤ t33) then
 bif decide (t33 < (t31.2.length : Int)) then
 bif decide (0 ≤ ((t31.2.getD (Int.toNat t33) (0, (true, []))).1)) then
 bif decide (((t31.2.getD (Int.toNat t33) (0, (true, []))).1) < (by_.2.length : Int)) then
(F7b t p (by_.1, (by_.2.set (Int.toNat ((t31.2.getD (Int.toNat t33) (0, (true, []))).1)) ((t31.2.getD (Int.toNat t33) (0, (true, []))).2))) t31 t32 (IntKind.i64.wrap (t33 + 1))).bind fun r => some r
else none
else none
else none
else none
else 
 some (by_.1, by_.2) := tL F17K
theorem F17E (p k_ t) : F17 p k_ t =
(F93 k_ t p (false, []) p.2.1 0).bind fun r =>
 bif decide (0 ≤ k_) then
 bif decide (k_ < (p.2.2.2.2.length : Int)) then
(F7b t p (r.1, r.2) ((p.2.2.2.2.getD (Int.toNat k_) ((true, []), (true, []))).2) ((((p.2.2.2.2.getD (Int.toNat k_) ((true, []), (true, []))).2).2).length : Int) 0).bind fun r1 =>
(Fz p.1 p.2.1 t (r1.1, r1.2)).bind fun r2 =>
 some (r2.1, r2.2)
else none
else none := tC
theorem Fa9E (preds p out t17 t18 t19) : Fa9 preds p out t17 t18 t19 =
 bif decide (t19 < t18) then
 bif decide (0 ≤ t19) then
 bif decide (t19 < (t17.2.length : Int)) then
(F3u ((t17.2.getD (Int.toNat t19) ((true, []), (true, []))).1) (out.1, out.2)).bind fun r =>
(Fa9 preds p (r.1, r.2) t17 t18 (IntKind.i64.wrap (t19 + 1))).bind fun r => some r
else none
else none
else 
 some (out.1, out.2) := tL F5K
theorem F9hE (p out t28 t29 t30) : F9h p out t28 t29 t30 =
 bif decide (t30 < t29) then
 bif decide (0 ≤ t30) then
 bif decide (t30 < (t28.2.length : Int)) then
(F5h p (out.1, out.2) (t28.2.getD (Int.toNat t30) (true, [])) t28 t29 t30 (p.2.2.2.2.length : Int) 0).bind fun r =>
(F9h p (r.1, r.2) t28 t29 (IntKind.i64.wrap (t30 + 1))).bind fun r => some r
else none
else none
else 
 some (out.1, out.2) := tL F5K
theorem F5hE (p out t t28 t29 t30 t36 t37) : F5h p out t t28 t29 t30 t36 t37 =
 bif decide (t37 < t36) then
(F17 p t37 t).bind fun r =>
 bif r.2 then
(F3u r.1 (out.1, out.2)).bind fun r1 =>
(F5h p (r1.1, r1.2) t t28 t29 t30 t36 (IntKind.i64.wrap (t37 + 1))).bind fun r => some r
else 
(F5h p (out.1, out.2) t t28 t29 t30 t36 (IntKind.i64.wrap (t37 + 1))).bind fun r => some r
else 
 some (out.1, out.2) := tL F5K
theorem F5E (p preds) : F5 p preds =
(Fa9 preds p (false, []) p.2.2.2 (p.2.2.2.2.length : Int) 0).bind fun r =>
(F9h p (r.1, r.2) preds (preds.2.length : Int) 0).bind fun r1 =>
 some (r1.1, r1.2) := tC
theorem F6vE (next a1 a2) : F6v next a1 a2 =
 bif decide (0 ≤ next) then
 bif decide (next < (a1.2.length : Int)) then
 some ((a1.2.getD (Int.toNat next) 0) == a2)
else none
else none := tC
theorem F9fE (s f t7 t8) : F9f s f t7 t8 =
 bif decide (t8 < t7) then
 bif decide (0 ≤ t8) then
 bif decide (t8 < (s.2.length : Int)) then
(F6v (s.2.getD (Int.toNat t8) 0) f.1 f.2.1).bind fun r =>
 bif r then
 some (.inl t8)
else 
(F9f s f t7 (IntKind.i64.wrap (t8 + 1))).bind fun r => some r
else none
else none
else 
 some (.inr ()) := tL F3mK
theorem F3mE (s f) : F3m s f =
(F9f s f (s.2.length : Int) 0).bind fun r =>
 match r with
| .inl y =>
 some y
| .inr z =>
 some (-1) := tC
theorem F6yE (s f) : F6y s f =
(F3m s f).bind fun r =>
 some (decide (r ≥ 0)) := tC
theorem F3vE (no a1 a2 a3) : F3v no a1 a2 a3 =
(F1m a1 no).bind fun r =>
(F6y (r.1, r.2) (a2, (a3, ()))).bind fun r1 =>
 some (!r1) := tC
theorem F7jE (s f t7 t8) : F7j s f t7 t8 =
 bif decide (t8 < t7) then
 bif decide (0 ≤ t8) then
 bif decide (t8 < (s.2.length : Int)) then
(F3v (s.2.getD (Int.toNat t8) 0) f.1 f.2.1 f.2.2.1).bind fun r =>
 bif r then
 some (.inl t8)
else 
(F7j s f t7 (IntKind.i64.wrap (t8 + 1))).bind fun r => some r
else none
else none
else 
 some (.inr ()) := tL FhK
theorem FhE (s f) : Fh s f =
(F7j s f (s.2.length : Int) 0).bind fun r =>
 match r with
| .inl y =>
 some y
| .inr z =>
 some (-1) := tC
theorem F6cE (s del i j) : F6c s del i j =
 bif decide (j < (s.2.length : Int)) then
 bif decide (0 ≤ j) then
 bif decide (j < (s.2.length : Int)) then
(F3v (s.2.getD (Int.toNat j) 0) del.1 del.2.1 del.2.2.1).bind fun r =>
 bif !r then
 bif decide (0 ≤ i) then
 bif decide (i < (s.2.length : Int)) then
(F6c (s.1, (s.2.set (Int.toNat i) (s.2.getD (Int.toNat j) 0))) del (IntKind.i64.wrap (i + 1)) (IntKind.i64.wrap (j + 1))).bind fun r => some r
else none
else none
else 
(F6c (s.1, s.2) del i (IntKind.i64.wrap (j + 1))).bind fun r => some r
else none
else none
else 
 some ((s.1, s.2), i) := tL F27K
theorem F27E (s del) : F27 s del =
(Fh (s.1, s.2) del).bind fun r =>
 bif (r == (-1)) then
 some (s.1, s.2)
else 
(F6c (s.1, s.2) del r (IntKind.i64.wrap (r + 1))).bind fun r1 =>
 bif decide (0 ≤ r1.2) then
 bif decide (r1.2 ≤ (r1.1.2.length : Int)) then
 bif decide (0 ≤ r1.2) then
 bif decide (r1.2 ≤ ((r1.1.2.take (Int.toNat r1.2) ++ (List.replicate (r1.1.2.length - (Int.toNat r1.2)) (0 : Int) ++ r1.1.2.drop r1.1.2.length)).length : Int)) then
 some (r1.1.1, (((r1.1.2.take (Int.toNat r1.2) ++ (List.replicate (r1.1.2.length - (Int.toNat r1.2)) (0 : Int) ++ r1.1.2.drop r1.1.2.length)).take (Int.toNat r1.2)).drop 0))
else none
else none
else none
else none := tC
theorem F1dE (p v class_ to) : F1d p v class_ to =
(F1v v class_).bind fun r =>
(F27 (r.1, r.2) (p, (v, (to, ())))).bind fun r1 =>
 some (r1.1, r1.2) := tC
theorem F40E (n) : F40 n =
 bif decide (n < 0) then
 none
else 
 bif decide ((IntKind.i64.wrap (n - (IntKind.i64.wrap (0 - 0)))) > 0) then
 bif decide (0 ≤ (IntKind.i64.wrap (n - (IntKind.i64.wrap (0 - 0))))) then
 bif decide ((IntKind.i64.wrap (n - (IntKind.i64.wrap (0 - 0)))) ≤ lim) then
 bif decide (([] : List DNode).length + (List.replicate (Int.toNat (IntKind.i64.wrap (n - (IntKind.i64.wrap (0 - 0))))) ((0, 0) : DNode)).length ≤ lim) then
 bif decide (0 ≤ (([] ++ (List.replicate (Int.toNat (IntKind.i64.wrap (n - (IntKind.i64.wrap (0 - 0))))) ((0, 0) : DNode))).length : Int)) then
 some ((List.replicate (Int.toNat (IntKind.i64.wrap (n - (IntKind.i64.wrap (0 - 0))))) ((0, 0) : DNode)).isEmpty, ((([] ++ (List.replicate (Int.toNat (IntKind.i64.wrap (n - (IntKind.i64.wrap (0 - 0))))) ((0, 0) : DNode))).take 0).drop 0))
else none
else none
else none
else none
else 
 some (true, []) := tC
theorem Fa0E (slices size_ t9 t10 t11) : Fa0 slices size_ t9 t10 t11 =
 bif decide (t11 < t10) then
 bif decide (0 ≤ t11) then
 bif decide (t11 < (t9.2.length : Int)) then
 bif decide ((IntKind.i64.wrap (size_ + (((t9.2.getD (Int.toNat t11) (true, [])).2).length : Int))) < 0) then
 none
else 
(Fa0 slices (IntKind.i64.wrap (size_ + (((t9.2.getD (Int.toNat t11) (true, [])).2).length : Int))) t9 t10 (IntKind.i64.wrap (t11 + 1))).bind fun r => some r
else none
else none
else 
 some size_ := tL F4K
theorem Fa3E (newslice t25 t26 t27) : Fa3 newslice t25 t26 t27 =
 bif decide (t27 < t26) then
 bif decide (0 ≤ t27) then
 bif decide (t27 < (t25.2.length : Int)) then
 bif decide (newslice.2.length + ((t25.2.getD (Int.toNat t27) (true, [])).2 : List DNode).length ≤ lim) then
(Fa3 ((newslice.1 && ((t25.2.getD (Int.toNat t27) (true, [])).2).isEmpty), (newslice.2 ++ ((t25.2.getD (Int.toNat t27) (true, [])).2))) t25 t26 (IntKind.i64.wrap (t27 + 1))).bind fun r => some r
else none
else none
else none
else 
 some (newslice.1, newslice.2) := tL F4K
theorem F4E (slices) : F4 slices =
(Fa0 slices 0 slices (slices.2.length : Int) 0).bind fun r =>
(F40 r).bind fun r1 =>
(Fa3 (r1.1, r1.2) slices (slices.2.length : Int) 0).bind fun r2 =>
 some (r2.1, r2.2) := tC
theorem F65E (no a1 a2) : F65 no a1 a2 =
(F1n a1 no).bind fun r =>
(Fm a1 a2 (r.1, r.2)).bind fun r1 =>
 some (!r1) := tC
theorem F9nE (s f t7 t8) : F9n s f t7 t8 =
 bif decide (t8 < t7) then
 bif decide (0 ≤ t8) then
 bif decide (t8 < (s.2.length : Int)) then
(F65 (s.2.getD (Int.toNat t8) 0) f.1 f.2.1).bind fun r =>
 bif r then
 some (.inl t8)
else 
(F9n s f t7 (IntKind.i64.wrap (t8 + 1))).bind fun r => some r
else none
else none
else 
 some (.inr ()) := tL F3kK
theorem F3kE (s f) : F3k s f =
(F9n s f (s.2.length : Int) 0).bind fun r =>
 match r with
| .inl y =>
 some y
| .inr z =>
 some (-1) := tC
theorem F5rE (s f) : F5r s f =
(F3k s f).bind fun r =>
 some (decide (r ≥ 0)) := tC
theorem F1iE (p t some_) : F1i p t some_ =
(F5r some_ (p, (t, ()))).bind fun r =>
 some (!r) := tC
theorem F4yE (p t a b) : F4y p t a b =
(F4 (false, [t, (false, [(19, 0)])])).bind fun r =>
(F1i p t a).bind fun r1 =>
 bif r1 then
(F1i p (r.1, r.2) b).bind fun r2 =>
 bif r2 then
 some true
else 
(F1i p (r.1, r.2) a).bind fun r3 =>
 bif r3 then
(F1i p t b).bind fun r4 =>
 some r4
else 
 some false
else 
(F1i p (r.1, r.2) a).bind fun r5 =>
 bif r5 then
(F1i p t b).bind fun r6 =>
 some r6
else 
 some false := tC
theorem F6kE (t a1 a2 a3) : F6k t a1 a2 a3 =
(F4y a1 t a2 a3).bind fun r =>
 some r := tC
theorem F8hE (s f t7 t8) : F8h s f t7 t8 =
 bif decide (t8 < t7) then
 bif decide (0 ≤ t8) then
 bif decide (t8 < (s.2.length : Int)) then
(F6k (s.2.getD (Int.toNat t8) (true, [])) f.1 f.2.1 f.2.2.1).bind fun r =>
 bif r then
 some (.inl t8)
else 
(F8h s f t7 (IntKind.i64.wrap (t8 + 1))).bind fun r => some r
else none
else none
else 
 some (.inr ()) := tL F2vK
theorem F2vE (s f) : F2v s f =
(F8h s f (s.2.length : Int) 0).bind fun r =>
 match r with
| .inl y =>
 some y
| .inr z =>
 some (-1) := tC
theorem F42E (p terms a b) : F42 p terms a b =
(F2v terms (p, (a, (b, ())))).bind fun r =>
 some r := tC
theorem F9qE (v t4 in_ t13 t14 t15) : F9q v t4 in_ t13 t14 t15 =
 bif decide (t15 < t14) then
 bif decide (0 ≤ t15) then
 bif decide (t15 < (t13.2.length : Int)) then
 bif decide (0 ≤ (t13.2.getD (Int.toNat t15) 0)) then
 bif decide ((t13.2.getD (Int.toNat t15) 0) < (in_.2.length : Int)) then
(F9q v t4 (in_.1, (in_.2.set (Int.toNat (t13.2.getD (Int.toNat t15) 0)) 1)) t13 t14 (IntKind.i64.wrap (t15 + 1))).bind fun r => some r
else none
else none
else none
else none
else 
 some (in_.1, in_.2) := tL F2kK
theorem F2kE (v some_) : F2k v some_ =
 bif decide (0 ≤ (v.2.length : Int)) then
 bif decide ((v.2.length : Int) ≤ lim) then
 bif decide ((v.2.length : Int) ≤ (v.2.length : Int)) then
 bif decide ((v.2.length : Int) ≤ lim) then
(F9q v (true, []) (false, (List.replicate (Int.toNat (v.2.length : Int)) (0 : Int))) some_ (some_.2.length : Int) 0).bind fun r =>
(F22 v (r.1, r.2)).bind fun r1 =>
 some (r1.1, r1.2)
else none
else none
else none
else none := tC
theorem F66E (p v preds path) : F66 p v preds path =
(F70 p v path).bind fun r =>
 bif !r.2 then
 some ((true, []), (0, false))
else 
(F8 p v path).bind fun r1 =>
(F35 (r1.1, r1.2)).bind fun r2 =>
(F5 p preds).bind fun r3 =>
 bif decide (0 ≤ (IntKind.i64.wrap (r2 - 1))) then
 bif decide ((IntKind.i64.wrap (r2 - 1)) < (path.2.length : Int)) then
 bif decide (0 ≤ r2) then
 bif decide (r2 < (path.2.length : Int)) then
(F1d p v (path.2.getD (Int.toNat (IntKind.i64.wrap (r2 - 1))) 0) (path.2.getD (Int.toNat r2) 0)).bind fun r4 =>
(F42 p (r3.1, r3.2) (r.1.1, r.1.2) (r4.1, r4.2)).bind fun r5 =>
 bif decide (r5 < 0) then
(F2k v (r.1.1, r.1.2)).bind fun r6 =>
 some ((r6.1, r6.2), ((-1), true))
else 
 bif decide (0 ≤ r5) then
 bif decide (r5 < (r3.2.length : Int)) then
(F4u p v ((r3.2.getD (Int.toNat r5) (true, [])).1, (r3.2.getD (Int.toNat r5) (true, [])).2)).bind fun r7 =>
 some ((r7.1.1, r7.1.2), (r5, true))
else none
else none
else none
else none
else none
else none := tC
theorem F8zE (preds bad budget p t8 out_0 out_1 out_2 out_3) : F8z preds bad budget p t8 out_0 out_1 out_2 out_3 =
(F72 p (out_3.1, out_3.2) bad).bind fun r =>
 bif r.1 then
 some (1, ((out_1.1, out_1.2), (out_2, (out_3.1, out_3.2))))
else 
(F2 p (out_3.1, out_3.2) (r.1, r.2)).bind fun r1 =>
 bif !r1.1 then
 some (2, ((r1.1, r1.2), (out_2, (out_3.1, out_3.2))))
else 
 bif (out_2 == budget) then
 some (3, ((out_1.1, out_1.2), (out_2, (out_3.1, out_3.2))))
else 
(F66 p (out_3.1, out_3.2) preds (r.1, r.2)).bind fun r2 =>
(F8z preds bad budget p t8 out_0 (out_1.1, out_1.2) (IntKind.i64.wrap (out_2 + 1)) (r2.1.1, r2.1.2)).bind fun r => some r := tL F33K
theorem F33E (p preds bad budget) : F33 p preds bad budget =
(F11 (false, [preds, (false, [bad])])).bind fun r =>
(F37 p (r.1, r.2)).bind fun r1 =>
(F8z preds bad budget p (0, ((true, []), (0, (true, [])))) 0 (true, []) 0 (r1.1, r1.2)).bind fun r2 =>
 some (r2.1, ((r2.2.1.1, r2.2.1.2), (r2.2.2.1, (r2.2.2.2.1, r2.2.2.2.2)))) := tC
theorem F4qE (p preds bad budget) : F4q p preds bad budget =
(F67 p preds bad budget).bind fun r =>
 bif !r then
 some (0, ((true, []), (0, ((true, []), false))))
else 
(F33 p preds bad budget).bind fun r1 =>
 some (r1.1, ((r1.2.1.1, r1.2.1.2), (r1.2.2.1, ((r1.2.2.2.1, r1.2.2.2.2), true)))) := tC
theorem F84E (a b i) : F84 a b i =
 bif decide (i < (a.2.length : Int)) then
 bif decide (0 ≤ i) then
 bif decide (i < (a.2.length : Int)) then
 bif decide (0 ≤ i) then
 bif decide (i < (b.2.length : Int)) then
 bif ((a.2.getD (Int.toNat i) 0) != (b.2.getD (Int.toNat i) 0)) then
 some (.inl false)
else 
(F84 a b (IntKind.i64.wrap (i + 1))).bind fun r => some r
else none
else none
else none
else none
else 
 some (.inr ()) := tL F25K
theorem F25E (a b) : F25 a b =
 bif ((a.2.length : Int) != (b.2.length : Int)) then
 some false
else 
(F84 a b 0).bind fun r =>
 match r with
| .inl y =>
 some y
| .inr z =>
 some true := tC
theorem F5dE (a b) : F5d a b =
(F25 a b).bind fun r =>
 bif !r then
 some false
else 
 some true := tC
theorem F4fE (a b) : F4f a b =
 bif (a.1 != b.1) then
 some false
else 
(F25 a.2.1 b.2.1).bind fun r =>
 bif !r then
 some false
else 
 bif (a.2.2.1 != b.2.2.1) then
 some false
else 
(F5d a.2.2.2 b.2.2.2).bind fun r1 =>
 bif !r1 then
 some false
else 
 some true := tC
theorem F6E (a b) : F6 a b =
 bif (a.1 != b.1) then
 some false
else 
 bif (a.2 != b.2) then
 some false
else 
 some true := tC
theorem F7xE (a b i) : F7x a b i =
 bif decide (i < (a.2.length : Int)) then
 bif decide (0 ≤ i) then
 bif decide (i < (a.2.length : Int)) then
 bif decide (0 ≤ i) then
 bif decide (i < (b.2.length : Int)) then
(F6 (a.2.getD (Int.toNat i) (0, 0)) (b.2.getD (Int.toNat i) (0, 0))).bind fun r =>
 bif !r then
 some (.inl false)
else 
(F7x a b (IntKind.i64.wrap (i + 1))).bind fun r => some r
else none
else none
else none
else none
else 
 some (.inr ()) := tL FbK
theorem FbE (a b) : Fb a b =
 bif ((a.2.length : Int) != (b.2.length : Int)) then
 some false
else 
(F7x a b 0).bind fun r =>
 match r with
| .inl y =>
 some y
| .inr z =>
 some true := tC
theorem F13E (a b) : F13 a b =
 bif (a.1 != b.1) then
 some false
else 
(Fb a.2 b.2).bind fun r =>
 bif !r then
 some false
else 
 some true := tC
theorem F92E (a b i) : F92 a b i =
 bif decide (i < (a.2.length : Int)) then
 bif decide (0 ≤ i) then
 bif decide (i < (a.2.length : Int)) then
 bif decide (0 ≤ i) then
 bif decide (i < (b.2.length : Int)) then
(F13 (a.2.getD (Int.toNat i) (0, (true, []))) (b.2.getD (Int.toNat i) (0, (true, [])))).bind fun r =>
 bif !r then
 some (.inl false)
else 
(F92 a b (IntKind.i64.wrap (i + 1))).bind fun r => some r
else none
else none
else none
else none
else 
 some (.inr ()) := tL F2hK
theorem F2hE (a b) : F2h a b =
 bif ((a.2.length : Int) != (b.2.length : Int)) then
 some false
else 
(F92 a b 0).bind fun r =>
 match r with
| .inl y =>
 some y
| .inr z =>
 some true := tC
theorem F12E (a b) : F12 a b =
(Fb a.1 b.1).bind fun r =>
 bif !r then
 some false
else 
(F2h a.2 b.2).bind fun r1 =>
 bif !r1 then
 some false
else 
 some true := tC
theorem F8vE (a b i) : F8v a b i =
 bif decide (i < (a.2.length : Int)) then
 bif decide (0 ≤ i) then
 bif decide (i < (a.2.length : Int)) then
 bif decide (0 ≤ i) then
 bif decide (i < (b.2.length : Int)) then
(F12 (a.2.getD (Int.toNat i) ((true, []), (true, []))) (b.2.getD (Int.toNat i) ((true, []), (true, [])))).bind fun r =>
 bif !r then
 some (.inl false)
else 
(F8v a b (IntKind.i64.wrap (i + 1))).bind fun r => some r
else none
else none
else none
else none
else 
 some (.inr ()) := tL F34K
theorem F34E (a b) : F34 a b =
 bif ((a.2.length : Int) != (b.2.length : Int)) then
 some false
else 
(F8v a b 0).bind fun r =>
 match r with
| .inl y =>
 some y
| .inr z =>
 some true := tC
theorem F7aE (a b) : F7a a b =
 bif (a.1 != b.1) then
 some false
else 
 bif (a.2.1 != b.2.1) then
 some false
else 
(Fb a.2.2.1 b.2.2.1).bind fun r =>
 bif !r then
 some false
else 
(F34 a.2.2.2 b.2.2.2).bind fun r1 =>
 bif !r1 then
 some false
else 
 some true := tC
theorem F8tE (a b i) : F8t a b i =
 bif decide (i < (a.2.length : Int)) then
 bif decide (0 ≤ i) then
 bif decide (i < (a.2.length : Int)) then
 bif decide (0 ≤ i) then
 bif decide (i < (b.2.length : Int)) then
(Fb (a.2.getD (Int.toNat i) (true, [])) (b.2.getD (Int.toNat i) (true, []))).bind fun r =>
 bif !r then
 some (.inl false)
else 
(F8t a b (IntKind.i64.wrap (i + 1))).bind fun r => some r
else none
else none
else none
else none
else 
 some (.inr ()) := tL F2rK
theorem F2rE (a b) : F2r a b =
 bif ((a.2.length : Int) != (b.2.length : Int)) then
 some false
else 
(F8t a b 0).bind fun r =>
 match r with
| .inl y =>
 some y
| .inr z =>
 some true := tC
theorem F9vE (a k_ i) : F9v a k_ i =
 bif decide (i < (a.2.length : Int)) then
 bif decide (0 ≤ i) then
 bif decide (i < (a.2.length : Int)) then
 bif decide (0 ≤ i) then
 bif decide (i < ((a.2.set (Int.toNat i) (k_, (a.2.getD (Int.toNat i) (0, 0)).2)).length : Int)) then
(F9v (a.1, ((a.2.set (Int.toNat i) (k_, (a.2.getD (Int.toNat i) (0, 0)).2)).set (Int.toNat i) (((a.2.set (Int.toNat i) (k_, (a.2.getD (Int.toNat i) (0, 0)).2)).getD (Int.toNat i) (0, 0)).1, IntKind.u64.wrap (IntKind.i64.wrap (k_ + 1))))) (IntKind.i64.wrap ((IntKind.i64.wrap (k_ + 1)) + 1)) (IntKind.i64.wrap (i + 1))).bind fun r => some r
else none
else none
else none
else none
else 
 some ((a.1, a.2), k_) := tL FcK
theorem FcE (a k_) : Fc a k_ =
(F9v (a.1, a.2) k_ 0).bind fun r =>
 some ((r.1.1, r.1.2), r.2) := tC
theorem F8bE (a k_ i) : F8b a k_ i =
 bif decide (i < (a.2.length : Int)) then
 bif decide (0 ≤ i) then
 bif decide (i < (a.2.length : Int)) then
 bif decide (0 ≤ i) then
 bif decide (i < ((a.2.set (Int.toNat i) (k_, (a.2.getD (Int.toNat i) (0, (true, []))).2)).length : Int)) then
(Fc ((((a.2.set (Int.toNat i) (k_, (a.2.getD (Int.toNat i) (0, (true, []))).2)).getD (Int.toNat i) (0, (true, []))).2).1, (((a.2.set (Int.toNat i) (k_, (a.2.getD (Int.toNat i) (0, (true, []))).2)).getD (Int.toNat i) (0, (true, []))).2).2) (IntKind.i64.wrap (k_ + 1))).bind fun r =>
(F8b (a.1, ((a.2.set (Int.toNat i) (k_, (a.2.getD (Int.toNat i) (0, (true, []))).2)).set (Int.toNat i) (((a.2.set (Int.toNat i) (k_, (a.2.getD (Int.toNat i) (0, (true, []))).2)).getD (Int.toNat i) (0, (true, []))).1, (r.1.1, r.1.2)))) r.2 (IntKind.i64.wrap (i + 1))).bind fun r => some r
else none
else none
else none
else none
else 
 some ((a.1, a.2), k_) := tL F3oK
theorem F3oE (a k_) : F3o a k_ =
(F8b (a.1, a.2) k_ 0).bind fun r =>
 some ((r.1.1, r.1.2), r.2) := tC
theorem F7mE (a k_ i) : F7m a k_ i =
 bif decide (i < (a.2.length : Int)) then
 bif decide (0 ≤ i) then
 bif decide (i < (a.2.length : Int)) then
(Fc (((a.2.getD (Int.toNat i) ((true, []), (true, []))).1).1, ((a.2.getD (Int.toNat i) ((true, []), (true, []))).1).2) k_).bind fun r =>
 bif decide (0 ≤ i) then
 bif decide (i < (a.2.length : Int)) then
(F3o ((((a.2.set (Int.toNat i) ((r.1.1, r.1.2), (a.2.getD (Int.toNat i) ((true, []), (true, []))).2)).getD (Int.toNat i) ((true, []), (true, []))).2).1, (((a.2.set (Int.toNat i) ((r.1.1, r.1.2), (a.2.getD (Int.toNat i) ((true, []), (true, []))).2)).getD (Int.toNat i) ((true, []), (true, []))).2).2) r.2).bind fun r1 =>
(F7m (a.1, ((a.2.set (Int.toNat i) ((r.1.1, r.1.2), (a.2.getD (Int.toNat i) ((true, []), (true, []))).2)).set (Int.toNat i) (((a.2.set (Int.toNat i) ((r.1.1, r.1.2), (a.2.getD (Int.toNat i) ((true, []), (true, []))).2)).getD (Int.toNat i) ((true, []), (true, []))).1, (r1.1.1, r1.1.2)))) r1.2 (IntKind.i64.wrap (i + 1))).bind fun r => some r
else none
else none
else none
else none
else 
 some ((a.1, a.2), k_) := tL F3cK
theorem F3cE (a k_) : F3c a k_ =
(F7m (a.1, a.2) k_ 0).bind fun r =>
 some ((r.1.1, r.1.2), r.2) := tC
theorem F5qE (a0_0 a0_1 a0_2 a0_3 k_) : F5q a0_0 a0_1 a0_2 a0_3 k_ =
(Fc (a0_2.1, a0_2.2) k_).bind fun r =>
(F3c (a0_3.1, a0_3.2) r.2).bind fun r1 =>
 some ((r.1.1, r.1.2), ((r1.1.1, r1.1.2), r1.2)) := tC
theorem F7gE (a k_ i) : F7g a k_ i =
 bif decide (i < (a.2.length : Int)) then
 bif decide (0 ≤ i) then
 bif decide (i < (a.2.length : Int)) then
(Fc ((a.2.getD (Int.toNat i) (true, [])).1, (a.2.getD (Int.toNat i) (true, [])).2) k_).bind fun r =>
(F7g (a.1, (a.2.set (Int.toNat i) (r.1.1, r.1.2))) r.2 (IntKind.i64.wrap (i + 1))).bind fun r => some r
else none
else none
else 
 some ((a.1, a.2), k_) := tL F3jK
theorem F3jE (a k_) : F3j a k_ =
(F7g (a.1, a.2) k_ 0).bind fun r =>
 some ((r.1.1, r.1.2), r.2) := tC
theorem F8xE (a k_ i) : F8x a k_ i =
 bif decide (i < (a.2.length : Int)) then
 bif decide (0 ≤ i) then
 bif decide (i < (a.2.length : Int)) then
(F8x (a.1, (a.2.set (Int.toNat i) k_)) (IntKind.i64.wrap (k_ + 1)) (IntKind.i64.wrap (i + 1))).bind fun r => some r
else none
else none
else 
 some ((a.1, a.2), k_) := tL F2eK
theorem F2eE (a k_) : F2e a k_ =
(F8x (a.1, a.2) k_ 0).bind fun r =>
 some ((r.1.1, r.1.2), r.2) := tC
theorem F5nE (a k_) : F5n a k_ =
(F2e (a.1, a.2) k_).bind fun r =>
 some ((r.1.1, r.1.2), r.2) := tC
theorem F6hE (a0_0 a0_1 a0_2 a0_3 k_) : F6h a0_0 a0_1 a0_2 a0_3 k_ =
(F2e (a0_1.1, a0_1.2) k_).bind fun r =>
(F5n (a0_3.1, a0_3.2) r.2).bind fun r1 =>
 some ((r.1.1, r.1.2), ((r1.1.1, r1.1.2), r1.2)) := tC
theorem F9wE (a k_ i) : F9w a k_ i =
 bif decide (i < (a.2.length : Int)) then
 bif decide (0 ≤ i) then
 bif decide (i < (a.2.length : Int)) then
 bif ((a.2.getD (Int.toNat i) 0) != k_) then
 some (.inl (-1))
else 
(F9w a (IntKind.i64.wrap (k_ + 1)) (IntKind.i64.wrap (i + 1))).bind fun r => some r
else none
else none
else 
 some (.inr k_) := tL F28K
theorem F28E (a k_) : F28 a k_ =
(F9w a k_ 0).bind fun r =>
 match r with
| .inl y =>
 some y
| .inr z =>
 some z := tC
theorem F6qE (a k_) : F6q a k_ =
(F28 a k_).bind fun r =>
 bif decide (r < 0) then
 some (-1)
else 
 some r := tC
theorem F4tE (a k_) : F4t a k_ =
(F28 a.2.1 k_).bind fun r =>
 bif decide (r < 0) then
 some (-1)
else 
(F6q a.2.2.2 r).bind fun r1 =>
 bif decide (r1 < 0) then
 some (-1)
else 
 some r1 := tC
theorem F7sE (aP aPreds aBad aBudget) : F7s aP aPreds aBad aBudget =
(F53 aP 1048576).bind fun r =>
 bif decide (r < 0) then
 some true
else 
(F36 aPreds r).bind fun r1 =>
 bif decide (r1 < 0) then
 some true
else 
(Fp aBad r1).bind fun r2 =>
 bif decide (r2 < 0) then
 some true
else 
(F47 aP).bind fun r3 =>
(F1j aPreds).bind fun r4 =>
(F7 aBad).bind fun r5 =>
(F2a (r3.1, (r3.2.1, ((r3.2.2.1.1, r3.2.2.1.2), (r3.2.2.2.1, r3.2.2.2.2)))) (r4.1, r4.2) (r5.1, r5.2) aBudget).bind fun r6 =>
(F47 aP).bind fun r7 =>
(F1j aPreds).bind fun r8 =>
(F7 aBad).bind fun r9 =>
(F4q (r7.1, (r7.2.1, ((r7.2.2.1.1, r7.2.2.1.2), (r7.2.2.2.1, r7.2.2.2.2)))) (r8.1, r8.2) (r9.1, r9.2) aBudget).bind fun r10 =>
(F4f (r10.1, ((r10.2.1.1, r10.2.1.2), (r10.2.2.1, (r10.2.2.2.1.1, r10.2.2.2.1.2)))) (r6.1, ((r6.2.1.1, r6.2.1.2), r6.2.2.1))).bind fun r11 =>
 bif !r11 then
 some false
else 
 bif !(r10.2.2.2.2 == r6.2.2.2) then
 some false
else 
(F47 aP).bind fun r12 =>
(F7a (r7.1, (r7.2.1, ((r7.2.2.1.1, r7.2.2.1.2), (r7.2.2.2.1, r7.2.2.2.2)))) (r12.1, (r12.2.1, ((r12.2.2.1.1, r12.2.2.1.2), (r12.2.2.2.1, r12.2.2.2.2))))).bind fun r13 =>
 bif !r13 then
 some false
else 
(F1j aPreds).bind fun r14 =>
(F2r (r8.1, r8.2) (r14.1, r14.2)).bind fun r15 =>
 bif !r15 then
 some false
else 
(F7 aBad).bind fun r16 =>
(Fb (r9.1, r9.2) (r16.1, r16.2)).bind fun r17 =>
 bif !r17 then
 some false
else 
(F5q r7.1 r7.2.1 (r7.2.2.1.1, r7.2.2.1.2) (r7.2.2.2.1, r7.2.2.2.2) 1).bind fun r18 =>
(F3j (r8.1, r8.2) r18.2.2).bind fun r19 =>
(Fc (r9.1, r9.2) r19.2).bind fun r20 =>
 bif decide (r20.2 < 0) then
 some false
else 
(F4f (r10.1, ((r10.2.1.1, r10.2.1.2), (r10.2.2.1, (r10.2.2.2.1.1, r10.2.2.2.1.2)))) (r6.1, ((r6.2.1.1, r6.2.1.2), r6.2.2.1))).bind fun r21 =>
 bif !r21 then
 some false
else 
 bif !(r10.2.2.2.2 == r6.2.2.2) then
 some false
else 
(F6h r10.1 (r10.2.1.1, r10.2.1.2) r10.2.2.1 (r10.2.2.2.1.1, r10.2.2.2.1.2) 1).bind fun r22 =>
(F4t (r10.1, ((r22.1.1, r22.1.2), (r10.2.2.1, (r22.2.1.1, r22.2.1.2)))) 1).bind fun r23 =>
 bif decide (r23 < 0) then
 some false
else 
 bif (r23 != r22.2.2) then
 some false
else 
(F47 aP).bind fun r24 =>
(F1j aPreds).bind fun r25 =>
(F7 aBad).bind fun r26 =>
(F4q (r24.1, (r24.2.1, ((r24.2.2.1.1, r24.2.2.1.2), (r24.2.2.2.1, r24.2.2.2.2)))) (r25.1, r25.2) (r26.1, r26.2) aBudget).bind fun r27 =>
(F4f (r27.1, ((r27.2.1.1, r27.2.1.2), (r27.2.2.1, (r27.2.2.2.1.1, r27.2.2.2.1.2)))) (r6.1, ((r6.2.1.1, r6.2.1.2), r6.2.2.1))).bind fun r28 =>
 bif !r28 then
 some false
else 
 bif !(r27.2.2.2.2 == r6.2.2.2) then
 some false
else 
(F4t (r10.1, ((r22.1.1, r22.1.2), (r10.2.2.1, (r22.2.1.1, r22.2.1.2)))) 1).bind fun r29 =>
 bif decide (r29 < 0) then
 some false
else 
 bif (r29 != r22.2.2) then
 some false
else 
 some true := tC
theorem fit : Fit Tryz.prog H := Jgx (exts := extsL) (tys := tysL) (cells := cellsL) (keys := keysL) (mtys := mtysL) rfl rfl rfl rfl rfl (by kernel_rfl) (by kernel_rfl) (by kernel_rfl) ⟨⟨Tryz.func38, by kernel_rfl, by kernel_rfl⟩, ⟨Tryz.func287, by kernel_rfl, by kernel_rfl⟩, ⟨Tryz.func211, by kernel_rfl, by kernel_rfl⟩, ⟨Tryz.func135, by kernel_rfl, by kernel_rfl⟩, ⟨Tryz.func69, by kernel_rfl, by kernel_rfl⟩, ⟨Tryz.func24, by kernel_rfl, by kernel_rfl⟩, ⟨Tryz.func12, by kernel_rfl, by kernel_rfl⟩, ⟨Tryz.func89, by kernel_rfl, by kernel_rfl⟩, ⟨Tryz.func40, by kernel_rfl, by kernel_rfl⟩, ⟨Tryz.func288, by kernel_rfl, by kernel_rfl⟩, ⟨Tryz.func217, by kernel_rfl, by kernel_rfl⟩, ⟨Tryz.func141, by kernel_rfl, by kernel_rfl⟩, ⟨Tryz.func75, by kernel_rfl, by kernel_rfl⟩, ⟨Tryz.func27, by kernel_rfl, by kernel_rfl⟩, ⟨Tryz.func15, by kernel_rfl, by kernel_rfl⟩, ⟨Tryz.func116, by kernel_rfl, by kernel_rfl⟩, ⟨Tryz.func272, by kernel_rfl, by kernel_rfl⟩, ⟨Tryz.func273, by kernel_rfl, by kernel_rfl⟩, ⟨Tryz.func307, by kernel_rfl, by kernel_rfl⟩, ⟨Tryz.func330, by kernel_rfl, by kernel_rfl⟩, ⟨Tryz.func274, by kernel_rfl, by kernel_rfl⟩, ⟨Tryz.func203, by kernel_rfl, by kernel_rfl⟩, ⟨Tryz.func123, by kernel_rfl, by kernel_rfl⟩, ⟨Tryz.func269, by kernel_rfl, by kernel_rfl⟩, ⟨Tryz.func200, by kernel_rfl, by kernel_rfl⟩, ⟨Tryz.func121, by kernel_rfl, by kernel_rfl⟩, ⟨Tryz.func60, by kernel_rfl, by kernel_rfl⟩, ⟨Tryz.func84, by kernel_rfl, by kernel_rfl⟩, ⟨Tryz.func159, by kernel_rfl, by kernel_rfl⟩, ⟨Tryz.func176, by kernel_rfl, by kernel_rfl⟩, ⟨Tryz.func309, by kernel_rfl, by kernel_rfl⟩, ⟨Tryz.func369, by kernel_rfl, by kernel_rfl⟩, ⟨Tryz.func343, by kernel_rfl, by kernel_rfl⟩, ⟨Tryz.func344, by kernel_rfl, by kernel_rfl⟩, ⟨Tryz.func345, by kernel_rfl, by kernel_rfl⟩, ⟨Tryz.func346, by kernel_rfl, by kernel_rfl⟩, ⟨Tryz.func308, by kernel_rfl, by kernel_rfl⟩, ⟨Tryz.func240, by kernel_rfl, by kernel_rfl⟩, ⟨Tryz.func175, by kernel_rfl, by kernel_rfl⟩, ⟨Tryz.func99, by kernel_rfl, by kernel_rfl⟩, ⟨Tryz.func98, by kernel_rfl, by kernel_rfl⟩, ⟨Tryz.func198, by kernel_rfl, by kernel_rfl⟩, ⟨Tryz.func118, by kernel_rfl, by kernel_rfl⟩, ⟨Tryz.func85, by kernel_rfl, by kernel_rfl⟩, ⟨Tryz.func86, by kernel_rfl, by kernel_rfl⟩, ⟨Tryz.func213, by kernel_rfl, by kernel_rfl⟩, ⟨Tryz.func160, by kernel_rfl, by kernel_rfl⟩, ⟨Tryz.func188, by kernel_rfl, by kernel_rfl⟩, ⟨Tryz.func189, by kernel_rfl, by kernel_rfl⟩, ⟨Tryz.func214, by kernel_rfl, by kernel_rfl⟩, ⟨Tryz.func216, by kernel_rfl, by kernel_rfl⟩, ⟨Tryz.func215, by kernel_rfl, by kernel_rfl⟩, ⟨Tryz.func140, by kernel_rfl, by kernel_rfl⟩, ⟨Tryz.func138, by kernel_rfl, by kernel_rfl⟩, ⟨Tryz.func228, by kernel_rfl, by kernel_rfl⟩, ⟨Tryz.func162, by kernel_rfl, by kernel_rfl⟩, ⟨Tryz.func227, by kernel_rfl, by kernel_rfl⟩, ⟨Tryz.func156, by kernel_rfl, by kernel_rfl⟩, ⟨Tryz.func226, by kernel_rfl, by kernel_rfl⟩, ⟨Tryz.func161, by kernel_rfl, by kernel_rfl⟩, ⟨Tryz.func87, by kernel_rfl, by kernel_rfl⟩, ⟨Tryz.func72, by kernel_rfl, by kernel_rfl⟩, ⟨Tryz.func73, by kernel_rfl, by kernel_rfl⟩, ⟨Tryz.func139, by kernel_rfl, by kernel_rfl⟩, ⟨Tryz.func74, by kernel_rfl, by kernel_rfl⟩, ⟨Tryz.func292, by kernel_rfl, by kernel_rfl⟩, ⟨Tryz.func229, by kernel_rfl, by kernel_rfl⟩, ⟨Tryz.func338, by kernel_rfl, by kernel_rfl⟩, ⟨Tryz.func339, by kernel_rfl, by kernel_rfl⟩, ⟨Tryz.func293, by kernel_rfl, by kernel_rfl⟩, ⟨Tryz.func230, by kernel_rfl, by kernel_rfl⟩, ⟨Tryz.func163, by kernel_rfl, by kernel_rfl⟩, ⟨Tryz.func165, by kernel_rfl, by kernel_rfl⟩, ⟨Tryz.func294, by kernel_rfl, by kernel_rfl⟩, ⟨Tryz.func231, by kernel_rfl, by kernel_rfl⟩, ⟨Tryz.func164, by kernel_rfl, by kernel_rfl⟩, ⟨Tryz.func88, by kernel_rfl, by kernel_rfl⟩, ⟨Tryz.func39, by kernel_rfl, by kernel_rfl⟩, ⟨Tryz.func275, by kernel_rfl, by kernel_rfl⟩, ⟨Tryz.func276, by kernel_rfl, by kernel_rfl⟩, ⟨Tryz.func334, by kernel_rfl, by kernel_rfl⟩, ⟨Tryz.func183, by kernel_rfl, by kernel_rfl⟩, ⟨Tryz.func364, by kernel_rfl, by kernel_rfl⟩, ⟨Tryz.func335, by kernel_rfl, by kernel_rfl⟩, ⟨Tryz.func336, by kernel_rfl, by kernel_rfl⟩, ⟨Tryz.func152, by kernel_rfl, by kernel_rfl⟩, ⟨Tryz.func144, by kernel_rfl, by kernel_rfl⟩, ⟨Tryz.func284, by kernel_rfl, by kernel_rfl⟩, ⟨Tryz.func285, by kernel_rfl, by kernel_rfl⟩, ⟨Tryz.func208, by kernel_rfl, by kernel_rfl⟩, ⟨Tryz.func129, by kernel_rfl, by kernel_rfl⟩, ⟨Tryz.func279, by kernel_rfl, by kernel_rfl⟩, ⟨Tryz.func278, by kernel_rfl, by kernel_rfl⟩, ⟨Tryz.func331, by kernel_rfl, by kernel_rfl⟩, ⟨Tryz.func277, by kernel_rfl, by kernel_rfl⟩, ⟨Tryz.func204, by kernel_rfl, by kernel_rfl⟩, ⟨Tryz.func125, by kernel_rfl, by kernel_rfl⟩, ⟨Tryz.func130, by kernel_rfl, by kernel_rfl⟩, ⟨Tryz.func207, by kernel_rfl, by kernel_rfl⟩, ⟨Tryz.func127, by kernel_rfl, by kernel_rfl⟩, ⟨Tryz.func64, by kernel_rfl, by kernel_rfl⟩, ⟨Tryz.func119, by kernel_rfl, by kernel_rfl⟩, ⟨Tryz.func90, by kernel_rfl, by kernel_rfl⟩, ⟨Tryz.func133, by kernel_rfl, by kernel_rfl⟩, ⟨Tryz.func66, by kernel_rfl, by kernel_rfl⟩, ⟨Tryz.func131, by kernel_rfl, by kernel_rfl⟩, ⟨Tryz.func106, by kernel_rfl, by kernel_rfl⟩, ⟨Tryz.func347, by kernel_rfl, by kernel_rfl⟩, ⟨Tryz.func348, by kernel_rfl, by kernel_rfl⟩, ⟨Tryz.func311, by kernel_rfl, by kernel_rfl⟩, ⟨Tryz.func312, by kernel_rfl, by kernel_rfl⟩, ⟨Tryz.func313, by kernel_rfl, by kernel_rfl⟩, ⟨Tryz.func314, by kernel_rfl, by kernel_rfl⟩, ⟨Tryz.func243, by kernel_rfl, by kernel_rfl⟩, ⟨Tryz.func182, by kernel_rfl, by kernel_rfl⟩, ⟨Tryz.func286, by kernel_rfl, by kernel_rfl⟩, ⟨Tryz.func209, by kernel_rfl, by kernel_rfl⟩, ⟨Tryz.func218, by kernel_rfl, by kernel_rfl⟩, ⟨Tryz.func142, by kernel_rfl, by kernel_rfl⟩, ⟨Tryz.func210, by kernel_rfl, by kernel_rfl⟩, ⟨Tryz.func132, by kernel_rfl, by kernel_rfl⟩, ⟨Tryz.func65, by kernel_rfl, by kernel_rfl⟩, ⟨Tryz.func219, by kernel_rfl, by kernel_rfl⟩, ⟨Tryz.func143, by kernel_rfl, by kernel_rfl⟩, ⟨Tryz.func304, by kernel_rfl, by kernel_rfl⟩, ⟨Tryz.func105, by kernel_rfl, by kernel_rfl⟩, ⟨Tryz.func337, by kernel_rfl, by kernel_rfl⟩, ⟨Tryz.func290, by kernel_rfl, by kernel_rfl⟩, ⟨Tryz.func289, by kernel_rfl, by kernel_rfl⟩, ⟨Tryz.func282, by kernel_rfl, by kernel_rfl⟩, ⟨Tryz.func283, by kernel_rfl, by kernel_rfl⟩, ⟨Tryz.func222, by kernel_rfl, by kernel_rfl⟩, ⟨Tryz.func220, by kernel_rfl, by kernel_rfl⟩, ⟨Tryz.func171, by kernel_rfl, by kernel_rfl⟩, ⟨Tryz.func239, by kernel_rfl, by kernel_rfl⟩, ⟨Tryz.func170, by kernel_rfl, by kernel_rfl⟩, ⟨Tryz.func172, by kernel_rfl, by kernel_rfl⟩, ⟨Tryz.func295, by kernel_rfl, by kernel_rfl⟩, ⟨Tryz.func322, by kernel_rfl, by kernel_rfl⟩, ⟨Tryz.func259, by kernel_rfl, by kernel_rfl⟩, ⟨Tryz.func193, by kernel_rfl, by kernel_rfl⟩, ⟨Tryz.func158, by kernel_rfl, by kernel_rfl⟩, ⟨Tryz.func238, by kernel_rfl, by kernel_rfl⟩, ⟨Tryz.func296, by kernel_rfl, by kernel_rfl⟩, ⟨Tryz.func152, by kernel_rfl, by kernel_rfl⟩, ⟨Tryz.func232, by kernel_rfl, by kernel_rfl⟩, ⟨Tryz.func166, by kernel_rfl, by kernel_rfl⟩, ⟨Tryz.func147, by kernel_rfl, by kernel_rfl⟩, ⟨Tryz.func221, by kernel_rfl, by kernel_rfl⟩, ⟨Tryz.func152, by kernel_rfl, by kernel_rfl⟩, ⟨Tryz.func149, by kernel_rfl, by kernel_rfl⟩, ⟨Tryz.func146, by kernel_rfl, by kernel_rfl⟩, ⟨Tryz.func224, by kernel_rfl, by kernel_rfl⟩, ⟨Tryz.func223, by kernel_rfl, by kernel_rfl⟩, ⟨Tryz.func148, by kernel_rfl, by kernel_rfl⟩, ⟨Tryz.func173, by kernel_rfl, by kernel_rfl⟩, ⟨Tryz.func96, by kernel_rfl, by kernel_rfl⟩, ⟨Tryz.func151, by kernel_rfl, by kernel_rfl⟩, ⟨Tryz.func152, by kernel_rfl, by kernel_rfl⟩, ⟨Tryz.func144, by kernel_rfl, by kernel_rfl⟩, ⟨Tryz.func150, by kernel_rfl, by kernel_rfl⟩, ⟨Tryz.func152, by kernel_rfl, by kernel_rfl⟩, ⟨Tryz.func149, by kernel_rfl, by kernel_rfl⟩, ⟨Tryz.func151, by kernel_rfl, by kernel_rfl⟩, ⟨Tryz.func152, by kernel_rfl, by kernel_rfl⟩, ⟨Tryz.func144, by kernel_rfl, by kernel_rfl⟩, ⟨Tryz.func150, by kernel_rfl, by kernel_rfl⟩, ⟨Tryz.func152, by kernel_rfl, by kernel_rfl⟩, ⟨Tryz.func149, by kernel_rfl, by kernel_rfl⟩, ⟨Tryz.func153, by kernel_rfl, by kernel_rfl⟩, ⟨Tryz.func152, by kernel_rfl, by kernel_rfl⟩, ⟨Tryz.func77, by kernel_rfl, by kernel_rfl⟩, ⟨Tryz.func233, by kernel_rfl, by kernel_rfl⟩, ⟨Tryz.func299, by kernel_rfl, by kernel_rfl⟩, ⟨Tryz.func298, by kernel_rfl, by kernel_rfl⟩, ⟨Tryz.func207, by kernel_rfl, by kernel_rfl⟩, ⟨Tryz.func127, by kernel_rfl, by kernel_rfl⟩, ⟨Tryz.func300, by kernel_rfl, by kernel_rfl⟩, ⟨Tryz.func297, by kernel_rfl, by kernel_rfl⟩, ⟨Tryz.func365, by kernel_rfl, by kernel_rfl⟩, ⟨Tryz.func207, by kernel_rfl, by kernel_rfl⟩, ⟨Tryz.func127, by kernel_rfl, by kernel_rfl⟩, ⟨Tryz.func366, by kernel_rfl, by kernel_rfl⟩, ⟨Tryz.func340, by kernel_rfl, by kernel_rfl⟩, ⟨Tryz.func301, by kernel_rfl, by kernel_rfl⟩, ⟨Tryz.func234, by kernel_rfl, by kernel_rfl⟩, ⟨Tryz.func306, by kernel_rfl, by kernel_rfl⟩, ⟨Tryz.func152, by kernel_rfl, by kernel_rfl⟩, ⟨Tryz.func144, by kernel_rfl, by kernel_rfl⟩, ⟨Tryz.func305, by kernel_rfl, by kernel_rfl⟩, ⟨Tryz.func152, by kernel_rfl, by kernel_rfl⟩, ⟨Tryz.func149, by kernel_rfl, by kernel_rfl⟩, ⟨Tryz.func236, by kernel_rfl, by kernel_rfl⟩, ⟨Tryz.func367, by kernel_rfl, by kernel_rfl⟩, ⟨Tryz.func341, by kernel_rfl, by kernel_rfl⟩, ⟨Tryz.func368, by kernel_rfl, by kernel_rfl⟩, ⟨Tryz.func152, by kernel_rfl, by kernel_rfl⟩, ⟨Tryz.func144, by kernel_rfl, by kernel_rfl⟩, ⟨Tryz.func342, by kernel_rfl, by kernel_rfl⟩, ⟨Tryz.func303, by kernel_rfl, by kernel_rfl⟩, ⟨Tryz.func302, by kernel_rfl, by kernel_rfl⟩, ⟨Tryz.func207, by kernel_rfl, by kernel_rfl⟩, ⟨Tryz.func235, by kernel_rfl, by kernel_rfl⟩, ⟨Tryz.func237, by kernel_rfl, by kernel_rfl⟩, ⟨Tryz.func167, by kernel_rfl, by kernel_rfl⟩, ⟨Tryz.func91, by kernel_rfl, by kernel_rfl⟩, ⟨Tryz.func41, by kernel_rfl, by kernel_rfl⟩, ⟨Tryz.func31, by kernel_rfl, by kernel_rfl⟩, ⟨Tryz.func17, by kernel_rfl, by kernel_rfl⟩, ⟨Tryz.func42, by kernel_rfl, by kernel_rfl⟩, ⟨Tryz.func92, by kernel_rfl, by kernel_rfl⟩, ⟨Tryz.func43, by kernel_rfl, by kernel_rfl⟩, ⟨Tryz.func291, by kernel_rfl, by kernel_rfl⟩, ⟨Tryz.func225, by kernel_rfl, by kernel_rfl⟩, ⟨Tryz.func154, by kernel_rfl, by kernel_rfl⟩, ⟨Tryz.func78, by kernel_rfl, by kernel_rfl⟩, ⟨Tryz.func32, by kernel_rfl, by kernel_rfl⟩, ⟨Tryz.func19, by kernel_rfl, by kernel_rfl⟩, ⟨Tryz.func44, by kernel_rfl, by kernel_rfl⟩, ⟨Tryz.func155, by kernel_rfl, by kernel_rfl⟩, ⟨Tryz.func79, by kernel_rfl, by kernel_rfl⟩, ⟨Tryz.func33, by kernel_rfl, by kernel_rfl⟩, ⟨Tryz.func21, by kernel_rfl, by kernel_rfl⟩, ⟨Tryz.func34, by kernel_rfl, by kernel_rfl⟩, ⟨Tryz.func22, by kernel_rfl, by kernel_rfl⟩, ⟨Tryz.func45, by kernel_rfl, by kernel_rfl⟩, ⟨Tryz.func35, by kernel_rfl, by kernel_rfl⟩, ⟨Tryz.func23, by kernel_rfl, by kernel_rfl⟩, ⟨Tryz.func46, by kernel_rfl, by kernel_rfl⟩, ⟨Tryz.func6, by kernel_rfl, by kernel_rfl⟩, trivial⟩ trivial (by kernel_rfl)
theorem nats : Jdl Tryz.prog H := Jh1 (keys := keysL) rfl ⟨.plain rfl, .plain rfl, .plain rfl, .plain rfl, .plain rfl, .plain rfl, .plain rfl, .plain rfl, .plain rfl, .plain rfl, .plain rfl, .plain rfl, .plain rfl, .plain rfl, .plain rfl, .plain rfl, .plain rfl, .plain rfl, .plain rfl, .plain rfl, .plain rfl, .plain rfl, .plain rfl, .plain rfl, .plain rfl, .plain rfl, .plain rfl, .plain rfl, .plain rfl, .plain rfl, .plain rfl, .plain rfl, .plain rfl, .plain rfl, .plain rfl, .plain rfl, .plain rfl, .plain rfl, .plain rfl, .plain rfl, .plain rfl, .plain rfl, .plain rfl, .plain rfl, .plain rfl, .plain rfl, .plain rfl, .plain rfl, .plain rfl, .plain rfl, .plain rfl, .plain rfl, .plain rfl, .plain rfl, .plain rfl, .plain rfl, .plain rfl, .plain rfl, .plain rfl, .plain rfl, .plain rfl, .plain rfl, .plain rfl, .plain rfl, .plain rfl, .plain rfl, .plain rfl, .plain rfl, .plain rfl, .plain rfl, .plain rfl, .plain rfl, .plain rfl, .plain rfl, .plain rfl, .plain rfl, .plain rfl, .plain rfl, .plain rfl, .plain rfl, .plain rfl, .plain rfl, .plain rfl, .plain rfl, .plain rfl, .plain rfl, .plain rfl, .plain rfl, .plain rfl, .plain rfl, .plain rfl, .plain rfl, .plain rfl, .plain rfl, .plain rfl, .plain rfl, .plain rfl, .plain rfl, .plain rfl, .plain rfl, .plain rfl, .plain rfl, .plain rfl, .plain rfl, .plain rfl, .plain rfl, .plain rfl, .plain rfl, .plain rfl, .plain rfl, .plain rfl, .plain rfl, .plain rfl, .plain rfl, .plain rfl, .plain rfl, .plain rfl, .plain rfl, .plain rfl, .plain rfl, .plain rfl, .plain rfl, .plain rfl, .plain rfl, .plain rfl, .plain rfl, .plain rfl, .plain rfl, .plain rfl, .sort Tryz.sortOk, .compact (by decide) Tryz.compactOk, .plain rfl, .plain rfl, .plain rfl, .plain rfl, .plain rfl, .plain rfl, .plain rfl, .plain rfl, .plain rfl, .plain rfl, .plain rfl, .plain rfl, .plain rfl, .plain rfl, .plain rfl, .plain rfl, .plain rfl, .plain rfl, .plain rfl, .plain rfl, .plain rfl, .plain rfl, .plain rfl, .plain rfl, .plain rfl, .plain rfl, .plain rfl, .plain rfl, .plain rfl, .plain rfl, .plain rfl, .plain rfl, .plain rfl, .plain rfl, .plain rfl, .plain rfl, .plain rfl, .plain rfl, .plain rfl, .plain rfl, .plain rfl, .plain rfl, .plain rfl, .plain rfl, .plain rfl, .plain rfl, .plain rfl, .plain rfl, .plain rfl, .plain rfl, .plain rfl, .plain rfl, .plain rfl, .plain rfl, .plain rfl, .plain rfl, .plain rfl, .plain rfl, .plain rfl, .plain rfl, .plain rfl, .plain rfl, .plain rfl, .plain rfl, .plain rfl, .plain rfl, .plain rfl, .plain rfl, .plain rfl, .plain rfl, .plain rfl, .plain rfl, .plain rfl, .plain rfl, .plain rfl, .plain rfl, .plain rfl, .plain rfl, .plain rfl, .plain rfl, .plain rfl, .plain rfl, .plain rfl, .plain rfl, .plain rfl, .plain rfl, .plain rfl, .plain rfl, .plain rfl, .plain rfl, .plain rfl, .plain rfl, .plain rfl, .plain rfl, .plain rfl, .plain rfl, .plain rfl, .plain rfl, .plain rfl, trivial⟩
end Go.Proofs.YtkfnlnohgfpipaaGreat.R
