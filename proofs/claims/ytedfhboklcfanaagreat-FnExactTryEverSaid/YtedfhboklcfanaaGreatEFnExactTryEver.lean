/- The functions of the law FnExactTryEver as equations:the other part. -/
import Derived.Test.YtedfhboklcfanaaGreatEFnExactTryEverA
import Derived.KernelRfl
set_option linter.unusedVariables false
namespace Go.Proofs.YtedfhboklcfanaaGreat.R
open Go.Rf Go.Proofs
theorem F9xE(p no t8 t9 t10):F9x p no t8 t9 t10=
 bif decide (t10<t9)then
 bif decide (0≤t10)then
 bif decide (t10<(t8.2.length:Int))then
 bif decide ((IntKind.i64.wrap (p.1*t10))<0)then
 none
else 
(F9x p (bOr .i64 no (bShl .i64 (IntKind.i64.wrap (t8.2.getD (Int.toNat t10) 0)) (IntKind.i64.wrap (p.1*t10)))) t8 t9 (IntKind.i64.wrap (t10+1))).bind fun r=>some r
else none
else none
else 
 some no:=tL F3gK
theorem F3gE(p s):F3g p s=
(F9x p 0 s (s.2.length:Int) 0).bind fun r=>
 some r:=tC
theorem F6oE(no p s out t14 t15 t16):F6o no p s out t14 t15 t16=
 bif decide (t16<t15)then
 bif decide (0≤t16)then
 bif decide (t16<(t14.2.length:Int))then
(F4g p ((t14.2.getD (Int.toNat t16) ((true,[]),(true,[]))).1) s).bind fun r=>
 bif r then
(F33 p (t14.2.getD (Int.toNat t16) ((true,[]),(true,[]))) s).bind fun r1=>
(F3g p (r1.1,r1.2)).bind fun r2=>
 bif decide (out.2.length+[r2].length ≤lim)then
(F6o no p s ((out.1&&false),(out.2++[r2])) t14 t15 (IntKind.i64.wrap (t16+1))).bind fun r=>some r
else none
else 
(F6o no p s (out.1,out.2) t14 t15 (IntKind.i64.wrap (t16+1))).bind fun r=>some r
else none
else none
else 
 some (out.1,out.2):=tL F2hK
theorem F2hE(p no):F2h p no=
(F1y p no).bind fun r=>
(F6o no p (r.1,r.2) (false,[]) p.2.2.2 (p.2.2.2.2.length:Int) 0).bind fun r1=>
 bif ((r1.2.length:Int)==0)then
 some (false,[no])
else 
(F4n (r1.1,r1.2)).bind fun r2=>
(F4o (r2.1,r2.2)).bind fun r3=>
 some (r3.1,r3.2):=tC
theorem F5uE(out t7 t8 t9):F5u out t7 t8 t9=
 bif decide (t9<t8)then
 bif decide (0≤t9)then
 bif decide (t9<(t7.2.length:Int))then
 bif (t7.2.getD (Int.toNat t9) false)then
 bif decide (out.2.length+[t9].length ≤lim)then
(F5u ((out.1&&false),(out.2++[t9])) t7 t8 (IntKind.i64.wrap (t9+1))).bind fun r=>some r
else none
else 
(F5u (out.1,out.2) t7 t8 (IntKind.i64.wrap (t9+1))).bind fun r=>some r
else none
else none
else 
 some (out.1,out.2):=tL F2eK
theorem F2eE(list):F2e list=
(F5u (false,[]) list (list.2.length:Int) 0).bind fun r=>
 some (r.1,r.2):=tC
theorem F8tE(v in_ t11 t12 t13):F8t v in_ t11 t12 t13=
 bif decide (t13<t12)then
 bif decide (0≤t13)then
 bif decide (t13<(t11.2.length:Int))then
 bif decide (0≤(t11.2.getD (Int.toNat t13) 0))then
 bif decide ((t11.2.getD (Int.toNat t13) 0)<(v.2.length:Int))then
 bif decide (0≤(v.2.getD (Int.toNat (t11.2.getD (Int.toNat t13) 0)) 0))then
 bif decide ((v.2.getD (Int.toNat (t11.2.getD (Int.toNat t13) 0)) 0)<(in_.2.length:Int))then
(F8t v (in_.1,(in_.2.set (Int.toNat (v.2.getD (Int.toNat (t11.2.getD (Int.toNat t13) 0)) 0)) true)) t11 t12 (IntKind.i64.wrap (t13+1))).bind fun r=>some r
else none
else none
else none
else none
else none
else none
else 
 some (in_.1,in_.2):=tL F29K
theorem F29E(v some_):F29 v some_=
(Fv v).bind fun r=>
 bif decide (0≤r)then
 bif decide (r≤lim)then
 bif decide (r≤r)then
 bif decide (r≤lim)then
(F8t v (false,(List.replicate (Int.toNat r) (false:Bool))) some_ (some_.2.length:Int) 0).bind fun r1=>
(F2e (r1.1,r1.2)).bind fun r2=>
 some (r2.1,r2.2)
else none
else none
else none
else none:=tC
theorem F7sE(p v next t13 t14 t15):F7s p v next t13 t14 t15=
 bif decide (t15<t14)then
 bif decide (0≤t15)then
 bif decide (t15<(t13.2.length:Int))then
(F2h p (t13.2.getD (Int.toNat t15) 0)).bind fun r=>
 bif decide (next.2.length+r.2.length≤lim)then
(F7s p v ((next.1&&r.2.isEmpty),(next.2++r.2)) t13 t14 (IntKind.i64.wrap (t15+1))).bind fun r=>some r
else none
else none
else none
else 
 some (next.1,next.2):=tL F3sK
theorem F3sE(p v class_):F3s p v class_=
(F2d v class_).bind fun r=>
(F7s p v (false,[]) (r.1,r.2) (r.2.length:Int) 0).bind fun r1=>
(F29 v (r1.1,r1.2)).bind fun r2=>
 some (r2.1,r2.2):=tC
theorem F42E(list guess node):F42 list guess node=
(F22 list node).bind fun r=>
 bif decide (r<0)then
 none
else 
 some ((bAnd .i64 (bShr .i64 guess r) 1)==1):=tC
theorem F1oE(letter next out operands list t18 t19 t20):F1o letter next out operands list t18 t19 t20=
 bif decide (t20<t19)then
 bif decide (0≤t20)then
 bif decide (t20<(t18.2.length:Int))then
 bif (((t18.2.getD (Int.toNat t20) (0,0)).1)==1)then
 bif decide (((t18.2.getD (Int.toNat t20) (0,0)).2)<0)then
 none
else 
 bif decide (out.2.length+[((bAnd .i64 (bShr .i64 letter ((t18.2.getD (Int.toNat t20) (0,0)).2)) 1)==1)].length ≤lim)then
(F1o letter next ((out.1&&false),(out.2++[((bAnd .i64 (bShr .i64 letter ((t18.2.getD (Int.toNat t20) (0,0)).2)) 1)==1)])) operands list t18 t19 (IntKind.i64.wrap (t20+1))).bind fun r=>some r
else none
else 
 bif (((t18.2.getD (Int.toNat t20) (0,0)).1)==3)then
 bif decide (0≤t20)then
 bif decide (t20<(operands.2.length:Int))then
 bif decide (0<(((operands.2.getD (Int.toNat t20) (true,[])).2).length :Int))then
 bif decide (0≤(((operands.2.getD (Int.toNat t20) (true,[])).2).getD 0 0))then
 bif decide ((((operands.2.getD (Int.toNat t20) (true,[])).2).getD 0 0)<(out.2.length:Int))then
 bif decide (out.2.length+([!(out.2.getD (Int.toNat (((operands.2.getD (Int.toNat t20) (true,[])).2).getD 0 0)) false)]:List Bool).length ≤lim)then
(F1o letter next ((out.1&&false),(out.2++[!(out.2.getD (Int.toNat (((operands.2.getD (Int.toNat t20) (true,[])).2).getD 0 0)) false)])) operands list t18 t19 (IntKind.i64.wrap (t20+1))).bind fun r=>some r
else none
else none
else none
else none
else none
else none
else 
 bif (((t18.2.getD (Int.toNat t20) (0,0)).1)==4)then
 bif decide (0≤t20)then
 bif decide (t20<(operands.2.length:Int))then
 bif decide (0<(((operands.2.getD (Int.toNat t20) (true,[])).2).length :Int))then
(F42 list next (((operands.2.getD (Int.toNat t20) (true,[])).2).getD 0 0)).bind fun r=>
 bif decide (out.2.length+[r].length ≤lim)then
(F1o letter next ((out.1&&false),(out.2++[r])) operands list t18 t19 (IntKind.i64.wrap (t20+1))).bind fun r=>some r
else none
else none
else none
else none
else 
 bif (((t18.2.getD (Int.toNat t20) (0,0)).1)==5)then
 bif decide (0≤t20)then
 bif decide (t20<(operands.2.length:Int))then
 bif decide (0<(((operands.2.getD (Int.toNat t20) (true,[])).2).length :Int))then
 bif decide (0≤(((operands.2.getD (Int.toNat t20) (true,[])).2).getD 0 0))then
 bif decide ((((operands.2.getD (Int.toNat t20) (true,[])).2).getD 0 0)<(out.2.length:Int))then
 bif (out.2.getD (Int.toNat (((operands.2.getD (Int.toNat t20) (true,[])).2).getD 0 0)) false)then
 bif decide (0≤t20)then
 bif decide (t20<(operands.2.length:Int))then
 bif decide (1<(((operands.2.getD (Int.toNat t20) (true,[])).2).length :Int))then
 bif decide (0≤(((operands.2.getD (Int.toNat t20) (true,[])).2).getD 1 0))then
 bif decide ((((operands.2.getD (Int.toNat t20) (true,[])).2).getD 1 0)<(out.2.length:Int))then
 bif decide (out.2.length+([(out.2.getD (Int.toNat (((operands.2.getD (Int.toNat t20) (true,[])).2).getD 1 0)) false)]:List Bool).length ≤lim)then
(F1o letter next ((out.1&&false),(out.2++[(out.2.getD (Int.toNat (((operands.2.getD (Int.toNat t20) (true,[])).2).getD 1 0)) false)])) operands list t18 t19 (IntKind.i64.wrap (t20+1))).bind fun r=>some r
else none
else none
else none
else none
else none
else none
else 
 bif decide (out.2.length+[false].length ≤lim)then
(F1o letter next ((out.1&&false),(out.2++[false])) operands list t18 t19 (IntKind.i64.wrap (t20+1))).bind fun r=>some r
else none
else none
else none
else none
else none
else none
else 
 bif (((t18.2.getD (Int.toNat t20) (0,0)).1)==6)then
 bif decide (0≤t20)then
 bif decide (t20<(operands.2.length:Int))then
 bif decide (0<(((operands.2.getD (Int.toNat t20) (true,[])).2).length :Int))then
 bif decide (0≤(((operands.2.getD (Int.toNat t20) (true,[])).2).getD 0 0))then
 bif decide ((((operands.2.getD (Int.toNat t20) (true,[])).2).getD 0 0)<(out.2.length:Int))then
 bif (out.2.getD (Int.toNat (((operands.2.getD (Int.toNat t20) (true,[])).2).getD 0 0)) false)then
 bif decide (out.2.length+[true].length ≤lim)then
(F1o letter next ((out.1&&false),(out.2++[true])) operands list t18 t19 (IntKind.i64.wrap (t20+1))).bind fun r=>some r
else none
else 
 bif decide (0≤t20)then
 bif decide (t20<(operands.2.length:Int))then
 bif decide (1<(((operands.2.getD (Int.toNat t20) (true,[])).2).length :Int))then
 bif decide (0≤(((operands.2.getD (Int.toNat t20) (true,[])).2).getD 1 0))then
 bif decide ((((operands.2.getD (Int.toNat t20) (true,[])).2).getD 1 0)<(out.2.length:Int))then
 bif decide (out.2.length+([(out.2.getD (Int.toNat (((operands.2.getD (Int.toNat t20) (true,[])).2).getD 1 0)) false)]:List Bool).length ≤lim)then
(F1o letter next ((out.1&&false),(out.2++[(out.2.getD (Int.toNat (((operands.2.getD (Int.toNat t20) (true,[])).2).getD 1 0)) false)])) operands list t18 t19 (IntKind.i64.wrap (t20+1))).bind fun r=>some r
else none
else none
else none
else none
else none
else none
else none
else none
else none
else none
else none
else 
 bif (((t18.2.getD (Int.toNat t20) (0,0)).1)==7)then
 bif decide (0≤t20)then
 bif decide (t20<(operands.2.length:Int))then
 bif decide (1<(((operands.2.getD (Int.toNat t20) (true,[])).2).length :Int))then
 bif decide (0≤(((operands.2.getD (Int.toNat t20) (true,[])).2).getD 1 0))then
 bif decide ((((operands.2.getD (Int.toNat t20) (true,[])).2).getD 1 0)<(out.2.length:Int))then
 bif (out.2.getD (Int.toNat (((operands.2.getD (Int.toNat t20) (true,[])).2).getD 1 0)) false)then
 bif decide (out.2.length+[true].length ≤lim)then
(F1o letter next ((out.1&&false),(out.2++[true])) operands list t18 t19 (IntKind.i64.wrap (t20+1))).bind fun r=>some r
else none
else 
 bif decide (0≤t20)then
 bif decide (t20<(operands.2.length:Int))then
 bif decide (0<(((operands.2.getD (Int.toNat t20) (true,[])).2).length :Int))then
 bif decide (0≤(((operands.2.getD (Int.toNat t20) (true,[])).2).getD 0 0))then
 bif decide ((((operands.2.getD (Int.toNat t20) (true,[])).2).getD 0 0)<(out.2.length:Int))then
 bif (out.2.getD (Int.toNat (((operands.2.getD (Int.toNat t20) (true,[])).2).getD 0 0)) false)then
(F42 list next t20).bind fun r1=>
 bif decide (out.2.length+[r1].length ≤lim)then
(F1o letter next ((out.1&&false),(out.2++[r1])) operands list t18 t19 (IntKind.i64.wrap (t20+1))).bind fun r=>some r
else none
else 
 bif decide (out.2.length+[false].length ≤lim)then
(F1o letter next ((out.1&&false),(out.2++[false])) operands list t18 t19 (IntKind.i64.wrap (t20+1))).bind fun r=>some r
else none
else none
else none
else none
else none
else none
else none
else none
else none
else none
else none
else 
 bif (((t18.2.getD (Int.toNat t20) (0,0)).1)==8)then
 bif decide (0≤t20)then
 bif decide (t20<(operands.2.length:Int))then
 bif decide (1<(((operands.2.getD (Int.toNat t20) (true,[])).2).length :Int))then
 bif decide (0≤(((operands.2.getD (Int.toNat t20) (true,[])).2).getD 1 0))then
 bif decide ((((operands.2.getD (Int.toNat t20) (true,[])).2).getD 1 0)<(out.2.length:Int))then
 bif (out.2.getD (Int.toNat (((operands.2.getD (Int.toNat t20) (true,[])).2).getD 1 0)) false)then
 bif decide (0≤t20)then
 bif decide (t20<(operands.2.length:Int))then
 bif decide (0<(((operands.2.getD (Int.toNat t20) (true,[])).2).length :Int))then
 bif decide (0≤(((operands.2.getD (Int.toNat t20) (true,[])).2).getD 0 0))then
 bif decide ((((operands.2.getD (Int.toNat t20) (true,[])).2).getD 0 0)<(out.2.length:Int))then
 bif (out.2.getD (Int.toNat (((operands.2.getD (Int.toNat t20) (true,[])).2).getD 0 0)) false)then
 bif decide (out.2.length+[true].length ≤lim)then
(F1o letter next ((out.1&&false),(out.2++[true])) operands list t18 t19 (IntKind.i64.wrap (t20+1))).bind fun r=>some r
else none
else 
(F42 list next t20).bind fun r2=>
 bif decide (out.2.length+[r2].length ≤lim)then
(F1o letter next ((out.1&&false),(out.2++[r2])) operands list t18 t19 (IntKind.i64.wrap (t20+1))).bind fun r=>some r
else none
else none
else none
else none
else none
else none
else 
 bif decide (out.2.length+[false].length ≤lim)then
(F1o letter next ((out.1&&false),(out.2++[false])) operands list t18 t19 (IntKind.i64.wrap (t20+1))).bind fun r=>some r
else none
else none
else none
else none
else none
else none
else 
 bif decide (out.2.length+[(((t18.2.getD (Int.toNat t20) (0,0)).2)==1)].length ≤lim)then
(F1o letter next ((out.1&&false),(out.2++[(((t18.2.getD (Int.toNat t20) (0,0)).2)==1)])) operands list t18 t19 (IntKind.i64.wrap (t20+1))).bind fun r=>some r
else none
else none
else none
else 
 some (out.1,out.2):=tL FpK
theorem FpE(f letter next):Fp f letter next=
(F23 f).bind fun r=>
(Fr f).bind fun r1=>
(F1o letter next (false,[]) (r.1,r.2) (r1.1,r1.2) f (f.2.length:Int) 0).bind fun r2=>
 some (r2.1,r2.2):=tC
theorem F6vE(values guess t16 t17 t18):F6v values guess t16 t17 t18=
 bif decide (t18<t17)then
 bif decide (0≤t18)then
 bif decide (t18<(t16.2.length:Int))then
 bif decide (0≤(t16.2.getD (Int.toNat t18) 0))then
 bif decide ((t16.2.getD (Int.toNat t18) 0)<(values.2.length:Int))then
 bif (values.2.getD (Int.toNat (t16.2.getD (Int.toNat t18) 0)) false)then
 bif decide (t18<0)then
 none
else 
(F6v values (bOr .i64 guess (bShl .i64 1 t18)) t16 t17 (IntKind.i64.wrap (t18+1))).bind fun r=>some r
else 
(F6v values guess t16 t17 (IntKind.i64.wrap (t18+1))).bind fun r=>some r
else none
else none
else none
else none
else 
 some guess:=tL F2qK
theorem F2qE(f letter next):F2q f letter next=
(Fp f letter next).bind fun r=>
(Fr f).bind fun r1=>
(F6v (r.1,r.2) 0 (r1.1,r1.2) (r1.2.length:Int) 0).bind fun r2=>
 some r2:=tC
theorem F5bE(guess a1 a2 a3 a4):F5b guess a1 a2 a3 a4=
(F42 a1 guess a2).bind fun r=>
 bif decide (0≤a2)then
 bif decide (a2<(a3.2.length:Int))then
 bif decide (1<(((a3.2.getD (Int.toNat a2) (true,[])).2).length :Int))then
(F42 a1 guess (((a3.2.getD (Int.toNat a2) (true,[])).2).getD 1 0)).bind fun r1=>
 bif (a4.1==7)then
 bif !r then
 some true
else 
 bif r1 then
 some true
else 
 bif (a4.1==8)then
 bif r then
 some true
else 
 some (!r1)
else 
 some false
else 
 bif (a4.1==8)then
 bif r then
 some true
else 
 some (!r1)
else 
 some false
else none
else none
else none:=tC
theorem F75E(holds out t9 t10):F75 holds out t9 t10=
 bif decide (t10<t9)then
(F5b t10 holds.1 holds.2.1 holds.2.2.1 holds.2.2.2.1).bind fun r=>
 bif r then
 bif decide (out.2.length+[t10].length ≤lim)then
(F75 holds ((out.1&&false),(out.2++[t10])) t9 (IntKind.i64.wrap (t10+1))).bind fun r=>some r
else none
else 
(F75 holds (out.1,out.2) t9 (IntKind.i64.wrap (t10+1))).bind fun r=>some r
else 
 some (out.1,out.2):=tL F21K
theorem F21E(f holds):F21 f holds=
(F5 f).bind fun r=>
(F75 holds (false,[]) r 0).bind fun r1=>
 some (r1.1,r1.2):=tC
theorem F4yE(f out operands list t13 t14 t15):F4y f out operands list t13 t14 t15=
 bif decide (t15<t14)then
 bif decide (0≤t15)then
 bif decide (t15<(t13.2.length:Int))then
 bif (((t13.2.getD (Int.toNat t15) (0,0)).1) !=7)then
 bif (((t13.2.getD (Int.toNat t15) (0,0)).1) !=8)then
(F4y f (out.1,out.2) operands list t13 t14 (IntKind.i64.wrap (t15+1))).bind fun r=>some r
else 
(F21 f (list,(t15,(operands,((t13.2.getD (Int.toNat t15) (0,0)),()))))).bind fun r=>
 bif decide (out.2.length+[(r.1,r.2)].length ≤lim)then
(F4y f ((out.1&&false),(out.2++[(r.1,r.2)])) operands list t13 t14 (IntKind.i64.wrap (t15+1))).bind fun r=>some r
else none
else 
(F21 f (list,(t15,(operands,((t13.2.getD (Int.toNat t15) (0,0)),()))))).bind fun r1=>
 bif decide (out.2.length+[(r1.1,r1.2)].length ≤lim)then
(F4y f ((out.1&&false),(out.2++[(r1.1,r1.2)])) operands list t13 t14 (IntKind.i64.wrap (t15+1))).bind fun r=>some r
else none
else none
else none
else 
 some (out.1,out.2):=tL F10K
theorem F10E(f):F10 f=
(F23 f).bind fun r=>
(Fr f).bind fun r1=>
(F4y f (false,[]) (r.1,r.2) (r1.1,r1.2) f (f.2.length:Int) 0).bind fun r2=>
 some (r2.1,r2.2):=tC
theorem F8yE(by_ out t9 t10 t11):F8y by_ out t9 t10 t11=
 bif decide (t11<t10)then
 bif decide (0≤t11)then
 bif decide (t11<(t9.2.length:Int))then
 bif decide (out.2.length+[IntKind.i64.wrap ((t9.2.getD (Int.toNat t11) 0)+by_)].length ≤lim)then
(F8y by_ ((out.1&&false),(out.2++[IntKind.i64.wrap ((t9.2.getD (Int.toNat t11) 0)+by_)])) t9 t10 (IntKind.i64.wrap (t11+1))).bind fun r=>some r
else none
else none
else none
else 
 some (out.1,out.2):=tL F2sK
theorem F2sE(list by_):F2s list by_=
(F8y by_ (false,[]) list (list.2.length:Int) 0).bind fun r=>
 some (r.1,r.2):=tC
theorem F5fE(t p out t9 t10):F5f t p out t9 t10=
 bif decide (t10<t9)then
(F1y p t10).bind fun r=>
(F4g p t (r.1,r.2)).bind fun r1=>
 bif r1 then
 bif decide (out.2.length+[t10].length ≤lim)then
(F5f t p ((out.1&&false),(out.2++[t10])) t9 (IntKind.i64.wrap (t10+1))).bind fun r=>some r
else none
else 
(F5f t p (out.1,out.2) t9 (IntKind.i64.wrap (t10+1))).bind fun r=>some r
else 
 some (out.1,out.2):=tL F2fK
theorem F2fE(p t):F2f p t=
(F55 p).bind fun r=>
(F5f t p (false,[]) r 0).bind fun r1=>
 some (r1.1,r1.2):=tC
theorem F6xE(guess a1 a2 a3):F6x guess a1 a2 a3=
(F42 a1 guess (IntKind.i64.wrap ((a2.2.length:Int)-1))).bind fun r=>
 some (r==a3):=tC
theorem F69E(holds out t9 t10):F69 holds out t9 t10=
 bif decide (t10<t9)then
(F6x t10 holds.1 holds.2.1 holds.2.2.1).bind fun r=>
 bif r then
 bif decide (out.2.length+[t10].length ≤lim)then
(F69 holds ((out.1&&false),(out.2++[t10])) t9 (IntKind.i64.wrap (t10+1))).bind fun r=>some r
else none
else 
(F69 holds (out.1,out.2) t9 (IntKind.i64.wrap (t10+1))).bind fun r=>some r
else 
 some (out.1,out.2):=tL F2pK
theorem F2pE(f holds):F2p f holds=
(F5 f).bind fun r=>
(F69 holds (false,[]) r 0).bind fun r1=>
 some (r1.1,r1.2):=tC
theorem F40E(f holds):F40 f holds=
(Fr f).bind fun r=>
(F2p f ((r.1,r.2),(f,(holds,())))).bind fun r1=>
 some (r1.1,r1.2):=tC
theorem F8nE(q out t9 t10 t11):F8n q out t9 t10 t11=
 bif decide (t11<t10)then
 bif decide (0≤t11)then
 bif decide (t11<(t9.2.length:Int))then
(F40 q.2.2 false).bind fun r=>
(F5 q.2.2).bind fun r1=>
(F2s (r.1,r.2) (IntKind.i64.wrap ((t9.2.getD (Int.toNat t11) 0)*r1))).bind fun r2=>
 bif decide (out.2.length+r2.2.length≤lim)then
(F8n q ((out.1&&r2.2.isEmpty),(out.2++r2.2)) t9 t10 (IntKind.i64.wrap (t11+1))).bind fun r=>some r
else none
else none
else none
else 
 some (out.1,out.2):=tL F35K
theorem F35E(q some_):F35 q some_=
(F8n q (false,[]) some_ (some_.2.length:Int) 0).bind fun r=>
 some (r.1,r.2):=tC
theorem F7kE(q v all_ many next goals t31 t32):F7k q v all_ many next goals t31 t32=
 bif decide (t32<t31)then
(F6f q v t32).bind fun r=>
(F3s q.1 v t32).bind fun r1=>
(F86 q v all_ many (next.1,next.2) goals t32 r t31 t32 (r1.1,r1.2) (r1.2.length:Int) 0).bind fun r2=>
(F7k q v all_ many (r2.1,r2.2) goals t31 (IntKind.i64.wrap (t32+1))).bind fun r=>some r
else 
 some (next.1,next.2):=tL F7K
theorem F86E(q v all_ many next goals class_ letter t31 t32 t43 t44 t45):F86 q v all_ many next goals class_ letter t31 t32 t43 t44 t45=
 bif decide (t45<t44)then
 bif decide (0≤t45)then
 bif decide (t45<(t43.2.length:Int))then
(F8z q v all_ many (next.1,next.2) goals class_ letter (t43.2.getD (Int.toNat t45) 0) t31 t32 t43 t44 t45 many 0).bind fun r=>
(F86 q v all_ many (r.1,r.2) goals class_ letter t31 t32 t43 t44 (IntKind.i64.wrap (t45+1))).bind fun r=>some r
else none
else none
else 
 some (next.1,next.2):=tL F7K
theorem F8zE(q v all_ many next goals class_ letter to t31 t32 t43 t44 t45 t49 t50):F8z q v all_ many next goals class_ letter to t31 t32 t43 t44 t45 t49 t50=
 bif decide (t50<t49)then
(F2q q.2.2 letter t50).bind fun r=>
 bif decide (0≤(IntKind.i64.wrap ((IntKind.i64.wrap (class_*many))+r)))then
 bif decide ((IntKind.i64.wrap ((IntKind.i64.wrap (class_*many))+r))<(next.2.length:Int))then
 bif decide (((next.2.getD (Int.toNat (IntKind.i64.wrap ((IntKind.i64.wrap (class_*many))+r))) (true,[])).2).length +[IntKind.i64.wrap ((IntKind.i64.wrap (to*many))+t50)].length ≤lim)then
 bif decide (0≤(IntKind.i64.wrap ((IntKind.i64.wrap (class_*many))+r)))then
 bif decide ((IntKind.i64.wrap ((IntKind.i64.wrap (class_*many))+r))<(next.2.length:Int))then
 bif ((Int.toNat (IntKind.i64.wrap ((IntKind.i64.wrap (class_*many))+r)))==(Int.toNat (IntKind.i64.wrap ((IntKind.i64.wrap (class_*many))+r))))then
(F8z q v all_ many (next.1,(next.2.set (Int.toNat (IntKind.i64.wrap ((IntKind.i64.wrap (class_*many))+r))) ((((next.2.getD (Int.toNat (IntKind.i64.wrap ((IntKind.i64.wrap (class_*many))+r))) (true,[])).1)&&false),(((next.2.getD (Int.toNat (IntKind.i64.wrap ((IntKind.i64.wrap (class_*many))+r))) (true,[])).2)++[IntKind.i64.wrap ((IntKind.i64.wrap (to*many))+t50)])))) goals class_ letter to t31 t32 t43 t44 t45 t49 (IntKind.i64.wrap (t50+1))).bind fun r=>some r
else none
else none
else none
else none
else none
else none
else 
 some (next.1,next.2):=tL F7K
theorem F9iE(q v all_ many next goals t81 t82 t83):F9i q v all_ many next goals t81 t82 t83=
 bif decide (t83<t82)then
 bif decide (0≤t83)then
 bif decide (t83<(t81.2.length:Int))then
(F8x q v all_ many next (goals.1,goals.2) (t81.2.getD (Int.toNat t83) (true,[])) (false,[]) t81 t82 t83 all_ 0).bind fun r=>
 bif decide (goals.2.length+[(r.1,r.2)].length ≤lim)then
(F9i q v all_ many next ((goals.1&&false),(goals.2++[(r.1,r.2)])) t81 t82 (IntKind.i64.wrap (t83+1))).bind fun r=>some r
else none
else none
else none
else 
 some (goals.1,goals.2):=tL F7K
theorem F8xE(q v all_ many next goals goal own t81 t82 t83 t88 t89):F8x q v all_ many next goals goal own t81 t82 t83 t88 t89=
 bif decide (t89<t88)then
(F2s goal (IntKind.i64.wrap (t89*many))).bind fun r=>
 bif decide (own.2.length+r.2.length≤lim)then
(F8x q v all_ many next goals goal ((own.1&&r.2.isEmpty),(own.2++r.2)) t81 t82 t83 t88 (IntKind.i64.wrap (t89+1))).bind fun r=>some r
else none
else 
 some (own.1,own.2):=tL F7K
theorem F7E(q v):F7 q v=
(Fv v).bind fun r=>
(F5 q.2.2).bind fun r1=>
 bif decide (0≤(IntKind.i64.wrap (r*r1)))then
 bif decide ((IntKind.i64.wrap (r*r1))≤lim)then
 bif decide ((IntKind.i64.wrap (r*r1))≤(IntKind.i64.wrap (r*r1)))then
 bif decide ((IntKind.i64.wrap (r*r1))≤lim)then
(F7k q v r r1 (false,(List.replicate (Int.toNat (IntKind.i64.wrap (r*r1))) ((true,[]):Bool×List Int))) (false,[]) r 0).bind fun r2=>
(F10 q.2.2).bind fun r3=>
(F9i q v r r1 (r2.1,r2.2) (false,[]) (r3.1,r3.2) (r3.2.length:Int) 0).bind fun r4=>
(F2f q.1 q.1.2.2.1).bind fun r5=>
(F29 v (r5.1,r5.2)).bind fun r6=>
(F35 q (r6.1,r6.2)).bind fun r7=>
 some ((r2.1,r2.2),((r7.1,r7.2),(r4.1,r4.2)))
else none
else none
else none
else none:=tC
theorem F85E(g steps open_ t17 t18 t19):F85 g steps open_ t17 t18 t19=
 bif decide (t19<t18)then
 bif decide (0≤t19)then
 bif decide (t19<(t17.2.length:Int))then
 bif decide (0≤(t17.2.getD (Int.toNat t19) 0))then
 bif decide ((t17.2.getD (Int.toNat t19) 0)<(steps.2.length:Int))then
(F85 g (steps.1,(steps.2.set (Int.toNat (t17.2.getD (Int.toNat t19) 0)) 0)) open_ t17 t18 (IntKind.i64.wrap (t19+1))).bind fun r=>some r
else none
else none
else none
else none
else 
 some (steps.1,steps.2):=tL FmK
theorem Fa3E(g steps open_):Fa3 g steps open_=
 bif decide ((open_.2.length:Int)>0)then
 bif decide (0<(open_.2.length:Int))then
 bif decide (0≤(open_.2.getD 0 0))then
 bif decide ((open_.2.getD 0 0)<(g.2.length:Int))then
(F70 g (steps.1,steps.2) (open_.1,open_.2) (g.2.getD (Int.toNat (open_.2.getD 0 0)) (true,[])) (((g.2.getD (Int.toNat (open_.2.getD 0 0)) (true,[])).2).length :Int) 0).bind fun r=>
 bif decide (1≤(r.2.2.length:Int))then
(Fa3 g (r.1.1,r.1.2) (r.2.1,((r.2.2.take r.2.2.length).drop 1))).bind fun r=>some r
else none
else none
else none
else none
else 
 some (steps.1,steps.2):=tL FmK
theorem F70E(g steps open_ t37 t38 t39):F70 g steps open_ t37 t38 t39=
 bif decide (t39<t38)then
 bif decide (0≤t39)then
 bif decide (t39<(t37.2.length:Int))then
 bif decide (0≤(t37.2.getD (Int.toNat t39) 0))then
 bif decide ((t37.2.getD (Int.toNat t39) 0)<(steps.2.length:Int))then
 bif decide ((steps.2.getD (Int.toNat (t37.2.getD (Int.toNat t39) 0)) 0)<0)then
 bif decide (0<(open_.2.length:Int))then
 bif decide (0≤(open_.2.getD 0 0))then
 bif decide ((open_.2.getD 0 0)<(steps.2.length:Int))then
 bif decide (0≤(t37.2.getD (Int.toNat t39) 0))then
 bif decide ((t37.2.getD (Int.toNat t39) 0)<(steps.2.length:Int))then
 bif decide (open_.2.length+[(t37.2.getD (Int.toNat t39) 0)].length ≤lim)then
(F70 g (steps.1,(steps.2.set (Int.toNat (t37.2.getD (Int.toNat t39) 0)) (IntKind.i64.wrap ((steps.2.getD (Int.toNat (open_.2.getD 0 0)) 0)+1)))) ((open_.1&&false),(open_.2++[(t37.2.getD (Int.toNat t39) 0)])) t37 t38 (IntKind.i64.wrap (t39+1))).bind fun r=>some r
else none
else none
else none
else none
else none
else none
else 
(F70 g (steps.1,steps.2) (open_.1,open_.2) t37 t38 (IntKind.i64.wrap (t39+1))).bind fun r=>some r
else none
else none
else none
else none
else 
 some ((steps.1,steps.2),(open_.1,open_.2)):=tL FmK
theorem FmE(g some_):Fm g some_=
(F1x (false,[(-1)]) (g.2.length:Int)).bind fun r=>
(F4m some_).bind fun r1=>
(F85 g (r.1,r.2) (r1.1,r1.2) some_ (some_.2.length:Int) 0).bind fun r2=>
(Fa3 g (r2.1,r2.2) (r1.1,r1.2)).bind fun r3=>
 some (r3.1,r3.2):=tC
theorem F7aE(x m i):F7a x m i=
 bif decide (i<(x.2.length:Int))then
 bif decide (0≤i)then
 bif decide (i<(x.2.length:Int))then
(F7a x (bif decide ((x.2.getD (Int.toNat i) 0)<m)then(x.2.getD (Int.toNat i) 0)else m) (IntKind.i64.wrap (i+1))).bind fun r=>some r
else none
else none
else 
 some m:=tL F36K
theorem F36E(x):F36 x=
 bif decide ((x.2.length:Int)<1)then
 none
else 
 bif decide (0<(x.2.length:Int))then
(F7a x (x.2.getD 0 0) 1).bind fun r=>
 some r
else none:=tC
theorem F4pE(t_0 t_1 t_2 t_3 t_4 t_5 v t53 t54 t55):F4p t_0 t_1 t_2 t_3 t_4 t_5 v t53 t54 t55=
 bif decide (t55<t54)then
 bif decide (0≤t55)then
 bif decide (t55<(t53.2.length:Int))then
 bif decide (0≤(t53.2.getD (Int.toNat t55) 0))then
 bif decide ((t53.2.getD (Int.toNat t55) 0)<(t_1.2.length:Int))then
 bif ((t_1.2.getD (Int.toNat (t53.2.getD (Int.toNat t55) 0)) 0)==0)then
(Fu t_0 (t_1.1,t_1.2) (t_2.1,t_2.2) (t_3.1,t_3.2) (t_4.1,t_4.2) t_5 (t53.2.getD (Int.toNat t55) 0)).bind fun r=>
 bif decide (0≤v)then
 bif decide (v<(r.2.2.1.2.length:Int))then
 bif decide (0≤(t53.2.getD (Int.toNat t55) 0))then
 bif decide ((t53.2.getD (Int.toNat t55) 0)<(r.2.2.1.2.length:Int))then
 bif decide (0≤v)then
 bif decide (v<(r.2.2.1.2.length:Int))then
(F4p r.1 (r.2.1.1,r.2.1.2) (r.2.2.1.1,(r.2.2.1.2.set (Int.toNat v) (bif decide ((r.2.2.1.2.getD (Int.toNat (t53.2.getD (Int.toNat t55) 0)) 0)<(r.2.2.1.2.getD (Int.toNat v) 0))then(r.2.2.1.2.getD (Int.toNat (t53.2.getD (Int.toNat t55) 0)) 0)else(r.2.2.1.2.getD (Int.toNat v) 0)))) (r.2.2.2.1.1,r.2.2.2.1.2) (r.2.2.2.2.1.1,r.2.2.2.2.1.2) r.2.2.2.2.2 v t53 t54 (IntKind.i64.wrap (t55+1))).bind fun r=>some r
else none
else none
else none
else none
else none
else none
else 
 bif decide (0≤(t53.2.getD (Int.toNat t55) 0))then
 bif decide ((t53.2.getD (Int.toNat t55) 0)<(t_3.2.length:Int))then
 bif decide ((t_3.2.getD (Int.toNat (t53.2.getD (Int.toNat t55) 0)) 0)<0)then
 bif decide (0≤v)then
 bif decide (v<(t_2.2.length:Int))then
 bif decide (0≤(t53.2.getD (Int.toNat t55) 0))then
 bif decide ((t53.2.getD (Int.toNat t55) 0)<(t_1.2.length:Int))then
 bif decide (0≤v)then
 bif decide (v<(t_2.2.length:Int))then
(F4p t_0 (t_1.1,t_1.2) (t_2.1,(t_2.2.set (Int.toNat v) (bif decide ((t_1.2.getD (Int.toNat (t53.2.getD (Int.toNat t55) 0)) 0)<(t_2.2.getD (Int.toNat v) 0))then(t_1.2.getD (Int.toNat (t53.2.getD (Int.toNat t55) 0)) 0)else(t_2.2.getD (Int.toNat v) 0)))) (t_3.1,t_3.2) (t_4.1,t_4.2) t_5 v t53 t54 (IntKind.i64.wrap (t55+1))).bind fun r=>some r
else none
else none
else none
else none
else none
else none
else 
(F4p t_0 (t_1.1,t_1.2) (t_2.1,t_2.2) (t_3.1,t_3.2) (t_4.1,t_4.2) t_5 v t53 t54 (IntKind.i64.wrap (t55+1))).bind fun r=>some r
else none
else none
else none
else none
else none
else none
else 
 some (t_0,((t_1.1,t_1.2),((t_2.1,t_2.2),((t_3.1,t_3.2),((t_4.1,t_4.2),t_5))))):=tL FuK
theorem F7gE(t_0 t_1 t_2 t_3 t_4 t_5 k_ least t154_0 t154_1 t155 t156):F7g t_0 t_1 t_2 t_3 t_4 t_5 k_ least t154_0 t154_1 t155 t156=
 bif decide (t156<t155)then
 bif decide (0≤t156)then
 bif decide (t156<(((Int.toNat t154_1)-(Int.toNat t154_0):Nat):Int))then
 bif decide (0≤(t_4.2.getD ((Int.toNat t154_0)+(Int.toNat t156)) 0))then
 bif decide ((t_4.2.getD ((Int.toNat t154_0)+(Int.toNat t156)) 0)<(t_3.2.length:Int))then
(F7g t_0 (t_1.1,t_1.2) (t_2.1,t_2.2) (t_3.1,(t_3.2.set (Int.toNat (t_4.2.getD ((Int.toNat t154_0)+(Int.toNat t156)) 0)) least)) (t_4.1,t_4.2) t_5 k_ least ((Int.toNat t154_0):Int) ((Int.toNat t154_1):Int) t155 (IntKind.i64.wrap (t156+1))).bind fun r=>some r
else none
else none
else none
else none
else 
 some (t_0,((t_1.1,t_1.2),((t_2.1,t_2.2),((t_3.1,t_3.2),((t_4.1,t_4.2),t_5))))):=tL FuK
theorem FuE(a0_0 a0_1 a0_2 a0_3 a0_4 a0_5 v):Fu a0_0 a0_1 a0_2 a0_3 a0_4 a0_5 v=
 bif decide (0≤v)then
 bif decide (v<(a0_1.2.length:Int))then
 bif decide (0≤v)then
 bif decide (v<(a0_2.2.length:Int))then
 bif decide (a0_4.2.length+[v].length ≤lim)then
 bif decide (0≤v)then
 bif decide (v<(a0_0.2.length:Int))then
(F4p a0_0 (a0_1.1,(a0_1.2.set (Int.toNat v) (IntKind.i64.wrap (a0_5+1)))) (a0_2.1,(a0_2.2.set (Int.toNat v) (IntKind.i64.wrap (a0_5+1)))) (a0_3.1,a0_3.2) ((a0_4.1&&false),(a0_4.2++[v])) (IntKind.i64.wrap (a0_5+1)) v (a0_0.2.getD (Int.toNat v) (true,[])) (((a0_0.2.getD (Int.toNat v) (true,[])).2).length :Int) 0).bind fun r=>
 bif decide (0≤v)then
 bif decide (v<(r.2.2.1.2.length:Int))then
 bif decide (0≤v)then
 bif decide (v<(r.2.1.2.length:Int))then
 bif decide ((r.2.2.1.2.getD (Int.toNat v) 0)<(r.2.1.2.getD (Int.toNat v) 0))then
 some (r.1,((r.2.1.1,r.2.1.2),((r.2.2.1.1,r.2.2.1.2),((r.2.2.2.1.1,r.2.2.2.1.2),((r.2.2.2.2.1.1,r.2.2.2.2.1.2),r.2.2.2.2.2)))))
else 
(F22 (r.2.2.2.2.1.1,r.2.2.2.2.1.2) v).bind fun r1=>
 bif decide (0≤r1)then
 bif decide (r1≤(r.2.2.2.2.1.2.length:Int))then
(F36 (r.2.2.2.2.1.1,((r.2.2.2.2.1.2.take r.2.2.2.2.1.2.length).drop (Int.toNat r1)))).bind fun r2=>
 bif decide (0≤r1)then
 bif decide (r1≤(r.2.2.2.2.1.2.length:Int))then
(F7g r.1 (r.2.1.1,r.2.1.2) (r.2.2.1.1,r.2.2.1.2) (r.2.2.2.1.1,r.2.2.2.1.2) (r.2.2.2.2.1.1,r.2.2.2.2.1.2) r.2.2.2.2.2 r1 r2 ((Int.toNat r1):Int) (r.2.2.2.2.1.2.length:Int) ((r.2.2.2.2.1.2.length-(Int.toNat r1):Nat):Int) 0).bind fun r3=>
 bif decide (0≤r1)then
 bif decide (r1≤(r3.2.2.2.2.1.2.length:Int))then
 some (r3.1,((r3.2.1.1,r3.2.1.2),((r3.2.2.1.1,r3.2.2.1.2),((r3.2.2.2.1.1,r3.2.2.2.1.2),((r3.2.2.2.2.1.1,((r3.2.2.2.2.1.2.take (Int.toNat r1)).drop 0)),r3.2.2.2.2.2)))))
else none
else none
else none
else none
else none
else none
else none
else none
else none
else none
else none
else none
else none
else none
else none
else none
else none:=tC
theorem F6cE(t_0 t_1 t_2 t_3 t_4 t_5 t19 t20):F6c t_0 t_1 t_2 t_3 t_4 t_5 t19 t20=
 bif decide (t20<t19)then
 bif decide (0≤t20)then
 bif decide (t20<(t_1.2.length:Int))then
 bif ((t_1.2.getD (Int.toNat t20) 0)==0)then
(Fu t_0 (t_1.1,t_1.2) (t_2.1,t_2.2) (t_3.1,t_3.2) (t_4.1,t_4.2) t_5 t20).bind fun r=>
(F6c r.1 (r.2.1.1,r.2.1.2) (r.2.2.1.1,r.2.2.1.2) (r.2.2.2.1.1,r.2.2.2.1.2) (r.2.2.2.2.1.1,r.2.2.2.2.1.2) r.2.2.2.2.2 t19 (IntKind.i64.wrap (t20+1))).bind fun r=>some r
else 
(F6c t_0 (t_1.1,t_1.2) (t_2.1,t_2.2) (t_3.1,t_3.2) (t_4.1,t_4.2) t_5 t19 (IntKind.i64.wrap (t20+1))).bind fun r=>some r
else none
else none
else 
 some (t_0,((t_1.1,t_1.2),((t_2.1,t_2.2),((t_3.1,t_3.2),((t_4.1,t_4.2),t_5))))):=tL F26K
theorem F26E(next):F26 next=
 bif decide (0≤(next.2.length:Int))then
 bif decide ((next.2.length:Int)≤lim)then
 bif decide ((next.2.length:Int)≤(next.2.length:Int))then
 bif decide ((next.2.length:Int)≤lim)then
 bif decide (0≤(next.2.length:Int))then
 bif decide ((next.2.length:Int)≤lim)then
 bif decide ((next.2.length:Int)≤(next.2.length:Int))then
 bif decide ((next.2.length:Int)≤lim)then
(F1x (false,[(-1)]) (next.2.length:Int)).bind fun r=>
(F6c next (false,(List.replicate (Int.toNat (next.2.length:Int)) (0:Int))) (false,(List.replicate (Int.toNat (next.2.length:Int)) (0:Int))) (r.1,r.2) (true,[]) 0 (next.2.length:Int) 0).bind fun r1=>
 some (r1.2.2.2.1.1,r1.2.2.2.1.2)
else none
else none
else none
else none
else none
else none
else none
else none:=tC
theorem F8hE(goals part n fair out t28 t29 t30):F8h goals part n fair out t28 t29 t30=
 bif decide (t30<t29)then
 bif decide (0≤t30)then
 bif decide (t30<(t28.2.length:Int))then
(F6b goals part n (fair.1,fair.2) out t30 t28 t29 t30 (t28.2.getD (Int.toNat t30) (true,[])) (((t28.2.getD (Int.toNat t30) (true,[])).2).length :Int) 0).bind fun r=>
(F8h goals part n (r.1,r.2) out t28 t29 (IntKind.i64.wrap (t30+1))).bind fun r=>some r
else none
else none
else 
 some (fair.1,fair.2):=tL F4K
theorem F6bE(goals part n fair out v t28 t29 t30 t35 t36 t37):F6b goals part n fair out v t28 t29 t30 t35 t36 t37=
 bif decide (t37<t36)then
 bif decide (0≤t37)then
 bif decide (t37<(t35.2.length:Int))then
 bif decide (0≤v)then
 bif decide (v<(part.2.length:Int))then
 bif decide (0≤v)then
 bif decide (v<(part.2.length:Int))then
 bif decide (0≤(part.2.getD (Int.toNat v) 0))then
 bif decide ((part.2.getD (Int.toNat v) 0)<(fair.2.length:Int))then
 bif (fair.2.getD (Int.toNat (part.2.getD (Int.toNat v) 0)) false)then
 bif decide (0≤(part.2.getD (Int.toNat v) 0))then
 bif decide ((part.2.getD (Int.toNat v) 0)<(fair.2.length:Int))then
(F6b goals part n (fair.1,(fair.2.set (Int.toNat (part.2.getD (Int.toNat v) 0)) true)) out v t28 t29 t30 t35 t36 (IntKind.i64.wrap (t37+1))).bind fun r=>some r
else none
else none
else 
 bif decide (0≤(t35.2.getD (Int.toNat t37) 0))then
 bif decide ((t35.2.getD (Int.toNat t37) 0)<(part.2.length:Int))then
 bif decide (0≤v)then
 bif decide (v<(part.2.length:Int))then
 bif decide (0≤(part.2.getD (Int.toNat v) 0))then
 bif decide ((part.2.getD (Int.toNat v) 0)<(fair.2.length:Int))then
(F6b goals part n (fair.1,(fair.2.set (Int.toNat (part.2.getD (Int.toNat v) 0)) ((part.2.getD (Int.toNat (t35.2.getD (Int.toNat t37) 0)) 0)==(part.2.getD (Int.toNat v) 0)))) out v t28 t29 t30 t35 t36 (IntKind.i64.wrap (t37+1))).bind fun r=>some r
else none
else none
else none
else none
else none
else none
else none
else none
else none
else none
else none
else none
else none
else none
else 
 some (fair.1,fair.2):=tL F4K
theorem F8jE(part n fair out t67 t68 t69):F8j part n fair out t67 t68 t69=
 bif decide (t69<t68)then
 bif decide (0≤t69)then
 bif decide (t69<(t67.2.length:Int))then
 bif decide (0≤n)then
 bif decide (n≤lim)then
 bif decide (n≤n)then
 bif decide (n≤lim)then
(F9w part n (fair.1,fair.2) out (false,(List.replicate (Int.toNat n) (false:Bool))) t67 t68 t69 (t67.2.getD (Int.toNat t69) (true,[])) (((t67.2.getD (Int.toNat t69) (true,[])).2).length :Int) 0).bind fun r=>
(F6n part n (fair.1,fair.2) out (r.1,r.2) t67 t68 t69 (fair.2.length:Int) 0).bind fun r1=>
(F8j part n (r1.1,r1.2) out t67 t68 (IntKind.i64.wrap (t69+1))).bind fun r=>some r
else none
else none
else none
else none
else none
else none
else 
 some (fair.1,fair.2):=tL F4K
theorem F9wE(part n fair out has t67 t68 t69 t75 t76 t77):F9w part n fair out has t67 t68 t69 t75 t76 t77=
 bif decide (t77<t76)then
 bif decide (0≤t77)then
 bif decide (t77<(t75.2.length:Int))then
 bif decide (0≤(t75.2.getD (Int.toNat t77) 0))then
 bif decide ((t75.2.getD (Int.toNat t77) 0)<(part.2.length:Int))then
 bif decide (0≤(part.2.getD (Int.toNat (t75.2.getD (Int.toNat t77) 0)) 0))then
 bif decide ((part.2.getD (Int.toNat (t75.2.getD (Int.toNat t77) 0)) 0)<(has.2.length:Int))then
(F9w part n fair out (has.1,(has.2.set (Int.toNat (part.2.getD (Int.toNat (t75.2.getD (Int.toNat t77) 0)) 0)) true)) t67 t68 t69 t75 t76 (IntKind.i64.wrap (t77+1))).bind fun r=>some r
else none
else none
else none
else none
else none
else none
else 
 some (has.1,has.2):=tL F4K
theorem F6nE(part n fair out has t67 t68 t69 t89 t90):F6n part n fair out has t67 t68 t69 t89 t90=
 bif decide (t90<t89)then
 bif decide (0≤t90)then
 bif decide (t90<(fair.2.length:Int))then
 bif (fair.2.getD (Int.toNat t90) false)then
 bif decide (0≤t90)then
 bif decide (t90<(has.2.length:Int))then
 bif decide (0≤t90)then
 bif decide (t90<(fair.2.length:Int))then
(F6n part n (fair.1,(fair.2.set (Int.toNat t90) (has.2.getD (Int.toNat t90) false))) out has t67 t68 t69 t89 (IntKind.i64.wrap (t90+1))).bind fun r=>some r
else none
else none
else none
else none
else 
 bif decide (0≤t90)then
 bif decide (t90<(fair.2.length:Int))then
(F6n part n (fair.1,(fair.2.set (Int.toNat t90) false)) out has t67 t68 t69 t89 (IntKind.i64.wrap (t90+1))).bind fun r=>some r
else none
else none
else none
else none
else 
 some (fair.1,fair.2):=tL F4K
theorem F9vE(part fair out t109 t110):F9v part fair out t109 t110=
 bif decide (t110<t109)then
 bif decide (0≤t110)then
 bif decide (t110<(part.2.length:Int))then
 bif decide (0≤(part.2.getD (Int.toNat t110) 0))then
 bif decide ((part.2.getD (Int.toNat t110) 0)<(fair.2.length:Int))then
 bif decide (0≤t110)then
 bif decide (t110<(out.2.length:Int))then
(F9v part fair (out.1,(out.2.set (Int.toNat t110) (fair.2.getD (Int.toNat (part.2.getD (Int.toNat t110) 0)) false))) t109 (IntKind.i64.wrap (t110+1))).bind fun r=>some r
else none
else none
else none
else none
else none
else none
else 
 some (out.1,out.2):=tL F4K
theorem F4E(next goals):F4 next goals=
(F26 next).bind fun r=>
 bif decide (0≤(next.2.length:Int))then
 bif decide ((next.2.length:Int)≤lim)then
 bif decide ((next.2.length:Int)≤(next.2.length:Int))then
 bif decide ((next.2.length:Int)≤lim)then
 bif decide (0≤(next.2.length:Int))then
 bif decide ((next.2.length:Int)≤lim)then
 bif decide ((next.2.length:Int)≤(next.2.length:Int))then
 bif decide ((next.2.length:Int)≤lim)then
(F8h goals (r.1,r.2) (next.2.length:Int) (false,(List.replicate (Int.toNat (next.2.length:Int)) (false:Bool))) (false,(List.replicate (Int.toNat (next.2.length:Int)) (false:Bool))) next (next.2.length:Int) 0).bind fun r1=>
(F8j (r.1,r.2) (next.2.length:Int) (r1.1,r1.2) (false,(List.replicate (Int.toNat (next.2.length:Int)) (false:Bool))) goals (goals.2.length:Int) 0).bind fun r2=>
(F9v (r.1,r.2) (r2.1,r2.2) (false,(List.replicate (Int.toNat (next.2.length:Int)) (false:Bool))) ((List.replicate (Int.toNat (next.2.length:Int)) (false:Bool)).length :Int) 0).bind fun r3=>
 some (r3.1,r3.2)
else none
else none
else none
else none
else none
else none
else none
else none:=tC
theorem F46E(steps best t16 t17 t18):F46 steps best t16 t17 t18=
 bif decide (t18<t17)then
 bif decide (0≤t18)then
 bif decide (t18<(t16.2.length:Int))then
 bif (t16.2.getD (Int.toNat t18) false)then
 bif decide (0≤t18)then
 bif decide (t18<(steps.2.length:Int))then
 bif decide ((steps.2.getD (Int.toNat t18) 0)≥0)then
 bif decide (best<0)then
(F46 steps t18 t16 t17 (IntKind.i64.wrap (t18+1))).bind fun r=>some r
else 
 bif decide (0≤t18)then
 bif decide (t18<(steps.2.length:Int))then
 bif decide (0≤best)then
 bif decide (best<(steps.2.length:Int))then
 bif decide ((steps.2.getD (Int.toNat t18) 0)<(steps.2.getD (Int.toNat best) 0))then
(F46 steps t18 t16 t17 (IntKind.i64.wrap (t18+1))).bind fun r=>some r
else 
(F46 steps best t16 t17 (IntKind.i64.wrap (t18+1))).bind fun r=>some r
else none
else none
else none
else none
else 
(F46 steps best t16 t17 (IntKind.i64.wrap (t18+1))).bind fun r=>some r
else none
else none
else 
(F46 steps best t16 t17 (IntKind.i64.wrap (t18+1))).bind fun r=>some r
else none
else none
else 
 some best:=tL F1pK
theorem F1pE(next from_ goals):F1p next from_ goals=
(Fm next from_).bind fun r=>
(F4 next goals).bind fun r1=>
(F46 (r.1,r.2) (-1) (r1.1,r1.2) (r1.2.length:Int) 0).bind fun r2=>
 some r2:=tC
theorem F7qE(out t11 t12 t13):F7q out t11 t12 t13=
 bif decide (t13<t12)then
 bif decide (0≤t13)then
 bif decide (t13<(t11.2.length:Int))then
(F9r (out.1,out.2) t13 t11 t12 t13 (t11.2.getD (Int.toNat t13) (true,[])) (((t11.2.getD (Int.toNat t13) (true,[])).2).length :Int) 0).bind fun r=>
(F7q (r.1,r.2) t11 t12 (IntKind.i64.wrap (t13+1))).bind fun r=>some r
else none
else none
else 
 some (out.1,out.2):=tL F1lK
theorem F9rE(out v t11 t12 t13 t18 t19 t20):F9r out v t11 t12 t13 t18 t19 t20=
 bif decide (t20<t19)then
 bif decide (0≤t20)then
 bif decide (t20<(t18.2.length:Int))then
 bif decide (0≤(t18.2.getD (Int.toNat t20) 0))then
 bif decide ((t18.2.getD (Int.toNat t20) 0)<(out.2.length:Int))then
 bif decide (((out.2.getD (Int.toNat (t18.2.getD (Int.toNat t20) 0)) (true,[])).2).length +[v].length ≤lim)then
 bif decide (0≤(t18.2.getD (Int.toNat t20) 0))then
 bif decide ((t18.2.getD (Int.toNat t20) 0)<(out.2.length:Int))then
 bif ((Int.toNat (t18.2.getD (Int.toNat t20) 0))==(Int.toNat (t18.2.getD (Int.toNat t20) 0)))then
(F9r (out.1,(out.2.set (Int.toNat (t18.2.getD (Int.toNat t20) 0)) ((((out.2.getD (Int.toNat (t18.2.getD (Int.toNat t20) 0)) (true,[])).1)&&false),(((out.2.getD (Int.toNat (t18.2.getD (Int.toNat t20) 0)) (true,[])).2)++[v])))) v t11 t12 t13 t18 t19 (IntKind.i64.wrap (t20+1))).bind fun r=>some r
else none
else none
else none
else none
else none
else none
else none
else none
else 
 some (out.1,out.2):=tL F1lK
theorem F1lE(g):F1l g=
 bif decide (0≤(g.2.length:Int))then
 bif decide ((g.2.length:Int)≤lim)then
 bif decide ((g.2.length:Int)≤(g.2.length:Int))then
 bif decide ((g.2.length:Int)≤lim)then
(F7q (false,(List.replicate (Int.toNat (g.2.length:Int)) ((true,[]):Bool×List Int))) g (g.2.length:Int) 0).bind fun r=>
 some (r.1,r.2)
else none
else none
else none
else none:=tC
theorem F76E(w a1 a2):F76 w a1 a2=
 bif decide (0≤w)then
 bif decide (w<(a1.2.length:Int))then
 bif decide (0≤a2)then
 bif decide (a2<(a1.2.length:Int))then
 some ((a1.2.getD (Int.toNat w) 0)==(IntKind.i64.wrap ((a1.2.getD (Int.toNat a2) 0)-1)))
else none
else none
else none
else none:=tC
theorem F7vE(s f t7 t8):F7v s f t7 t8=
 bif decide (t8<t7)then
 bif decide (0≤t8)then
 bif decide (t8<(s.2.length:Int))then
(F76 (s.2.getD (Int.toNat t8) 0) f.1 f.2.1).bind fun r=>
 bif r then
 some (.inl t8)
else 
(F7v s f t7 (IntKind.i64.wrap (t8+1))).bind fun r=>some r
else none
else none
else 
 some (.inr ()):=tL F2wK
theorem F2wE(s f):F2w s f=
(F7v s f (s.2.length:Int) 0).bind fun r=>
 match r with
| .inl y=>
 some y
| .inr z=>
 some (-1):=tC
theorem F4hE(g steps best t18 t19 t20):F4h g steps best t18 t19 t20=
 bif decide (t20<t19)then
 bif decide (0≤t20)then
 bif decide (t20<(t18.2.length:Int))then
 bif decide (0≤(t18.2.getD (Int.toNat t20) 0))then
 bif decide ((t18.2.getD (Int.toNat t20) 0)<(steps.2.length:Int))then
 bif decide ((steps.2.getD (Int.toNat (t18.2.getD (Int.toNat t20) 0)) 0)≥0)then
 bif decide (best<0)then
(F4h g steps (t18.2.getD (Int.toNat t20) 0) t18 t19 (IntKind.i64.wrap (t20+1))).bind fun r=>some r
else 
 bif decide (0≤(t18.2.getD (Int.toNat t20) 0))then
 bif decide ((t18.2.getD (Int.toNat t20) 0)<(steps.2.length:Int))then
 bif decide (0≤best)then
 bif decide (best<(steps.2.length:Int))then
 bif decide ((steps.2.getD (Int.toNat (t18.2.getD (Int.toNat t20) 0)) 0)<(steps.2.getD (Int.toNat best) 0))then
(F4h g steps (t18.2.getD (Int.toNat t20) 0) t18 t19 (IntKind.i64.wrap (t20+1))).bind fun r=>some r
else 
(F4h g steps best t18 t19 (IntKind.i64.wrap (t20+1))).bind fun r=>some r
else none
else none
else none
else none
else 
(F4h g steps best t18 t19 (IntKind.i64.wrap (t20+1))).bind fun r=>some r
else none
else none
else none
else none
else 
 some best:=tL FiK
theorem F81E(g steps way v):F81 g steps way v=
 bif decide (0≤v)then
 bif decide (v<(steps.2.length:Int))then
 bif decide ((steps.2.getD (Int.toNat v) 0)>0)then
 bif decide (0≤v)then
 bif decide (v<(g.2.length:Int))then
(F2w (g.2.getD (Int.toNat v) (true,[])) (steps,(v,()))).bind fun r=>
 bif decide (0≤v)then
 bif decide (v<(g.2.length:Int))then
 bif decide (0≤r)then
 bif decide (r<(((g.2.getD (Int.toNat v) (true,[])).2).length :Int))then
 bif decide (way.2.length+([(((g.2.getD (Int.toNat v) (true,[])).2).getD (Int.toNat r) 0)]:List Int).length ≤lim)then
(F81 g steps ((way.1&&false),(way.2++[(((g.2.getD (Int.toNat v) (true,[])).2).getD (Int.toNat r) 0)])) (((g.2.getD (Int.toNat v) (true,[])).2).getD (Int.toNat r) 0)).bind fun r=>some r
else none
else none
else none
else none
else none
else none
else none
else 
 some (way.1,way.2)
else none
else none:=tL FiK
theorem FiE(g from_ to):Fi g from_ to=
(F1l g).bind fun r=>
(Fm (r.1,r.2) to).bind fun r1=>
(F4h g (r1.1,r1.2) (-1) from_ (from_.2.length:Int) 0).bind fun r2=>
 bif decide (r2<0)then
 some (true,[])
else 
(F81 g (r1.1,r1.2) (false,[r2]) r2).bind fun r3=>
 some (r3.1,r3.2):=tC
theorem F9aE(part own out t15 t16 t17):F9a part own out t15 t16 t17=
 bif decide (t17<t16)then
 bif decide (0≤t17)then
 bif decide (t17<(t15.2.length:Int))then
(F4z part own (out.1,out.2) t17 t15 t16 t17 (t15.2.getD (Int.toNat t17) (true,[])) (((t15.2.getD (Int.toNat t17) (true,[])).2).length :Int) 0).bind fun r=>
(F9a part own (r.1,r.2) t15 t16 (IntKind.i64.wrap (t17+1))).bind fun r=>some r
else none
else none
else 
 some (out.1,out.2):=tL FzK
theorem F4zE(part own out v t15 t16 t17 t22 t23 t24):F4z part own out v t15 t16 t17 t22 t23 t24=
 bif decide (t24<t23)then
 bif decide (0≤t24)then
 bif decide (t24<(t22.2.length:Int))then
 bif decide (0≤v)then
 bif decide (v<(part.2.length:Int))then
 bif ((part.2.getD (Int.toNat v) 0)==own)then
 bif decide (0≤(t22.2.getD (Int.toNat t24) 0))then
 bif decide ((t22.2.getD (Int.toNat t24) 0)<(part.2.length:Int))then
 bif ((part.2.getD (Int.toNat (t22.2.getD (Int.toNat t24) 0)) 0)==own)then
 bif decide (0≤v)then
 bif decide (v<(out.2.length:Int))then
 bif decide (((out.2.getD (Int.toNat v) (true,[])).2).length +[(t22.2.getD (Int.toNat t24) 0)].length ≤lim)then
 bif decide (0≤v)then
 bif decide (v<(out.2.length:Int))then
 bif ((Int.toNat v)==(Int.toNat v))then
(F4z part own (out.1,(out.2.set (Int.toNat v) ((((out.2.getD (Int.toNat v) (true,[])).1)&&false),(((out.2.getD (Int.toNat v) (true,[])).2)++[(t22.2.getD (Int.toNat t24) 0)])))) v t15 t16 t17 t22 t23 (IntKind.i64.wrap (t24+1))).bind fun r=>some r
else none
else none
else none
else none
else none
else none
else 
(F4z part own (out.1,out.2) v t15 t16 t17 t22 t23 (IntKind.i64.wrap (t24+1))).bind fun r=>some r
else none
else none
else 
(F4z part own (out.1,out.2) v t15 t16 t17 t22 t23 (IntKind.i64.wrap (t24+1))).bind fun r=>some r
else none
else none
else none
else none
else 
 some (out.1,out.2):=tL FzK
theorem FzE(next part own):Fz next part own=
 bif decide (0≤(next.2.length:Int))then
 bif decide ((next.2.length:Int)≤lim)then
 bif decide ((next.2.length:Int)≤(next.2.length:Int))then
 bif decide ((next.2.length:Int)≤lim)then
(F9a part own (false,(List.replicate (Int.toNat (next.2.length:Int)) ((true,[]):Bool×List Int))) next (next.2.length:Int) 0).bind fun r=>
 some (r.1,r.2)
else none
else none
else none
else none:=tC
theorem F53E(v a1 a2):F53 v a1 a2=
 bif decide (0≤v)then
 bif decide (v<(a1.2.length:Int))then
 bif decide (0≤a2)then
 bif decide (a2<(a1.2.length:Int))then
 some ((a1.2.getD (Int.toNat v) 0) !=(a1.2.getD (Int.toNat a2) 0))
else none
else none
else none
else none:=tC
theorem F9pE(s f t7 t8):F9p s f t7 t8=
 bif decide (t8<t7)then
 bif decide (0≤t8)then
 bif decide (t8<(s.2.length:Int))then
(F53 (s.2.getD (Int.toNat t8) 0) f.1 f.2.1).bind fun r=>
 bif r then
 some (.inl t8)
else 
(F9p s f t7 (IntKind.i64.wrap (t8+1))).bind fun r=>some r
else none
else none
else 
 some (.inr ()):=tL F2vK
theorem F2vE(s f):F2v s f=
(F9p s f (s.2.length:Int) 0).bind fun r=>
 match r with
| .inl y=>
 some y
| .inr z=>
 some (-1):=tC
theorem F6zE(s del i j):F6z s del i j=
 bif decide (j<(s.2.length:Int))then
 bif decide (0≤j)then
 bif decide (j<(s.2.length:Int))then
(F53 (s.2.getD (Int.toNat j) 0) del.1 del.2.1).bind fun r=>
 bif !r then
 bif decide (0≤i)then
 bif decide (i<(s.2.length:Int))then
(F6z (s.1,(s.2.set (Int.toNat i) (s.2.getD (Int.toNat j) 0))) del (IntKind.i64.wrap (i+1)) (IntKind.i64.wrap (j+1))).bind fun r=>some r
else none
else none
else 
(F6z (s.1,s.2) del i (IntKind.i64.wrap (j+1))).bind fun r=>some r
else none
else none
else 
 some ((s.1,s.2),i):=tL F2lK
theorem F2lE(s del):F2l s del=
(F2v (s.1,s.2) del).bind fun r=>
 bif (r==(-1))then
 some (s.1,s.2)
else 
(F6z (s.1,s.2) del r (IntKind.i64.wrap (r+1))).bind fun r1=>
 bif decide (0≤r1.2)then
 bif decide (r1.2≤(r1.1.2.length:Int))then
 bif decide (0≤r1.2)then
 bif decide (r1.2≤((r1.1.2.take (Int.toNat r1.2)++(List.replicate (r1.1.2.length-(Int.toNat r1.2)) (0:Int)++r1.1.2.drop r1.1.2.length)).length :Int))then
 some (r1.1.1,(((r1.1.2.take (Int.toNat r1.2)++(List.replicate (r1.1.2.length-(Int.toNat r1.2)) (0:Int)++r1.1.2.drop r1.1.2.length)).take (Int.toNat r1.2)).drop 0))
else none
else none
else none
else none:=tC
theorem F7fE(meet stem part arcs loop t41 t42 t43):F7f meet stem part arcs loop t41 t42 t43=
 bif decide (t43<t42)then
 bif decide (0≤t43)then
 bif decide (t43<(t41.2.length:Int))then
(F4m (t41.2.getD (Int.toNat t43) (true,[]))).bind fun r=>
(F2l (r.1,r.2) (part,(meet,()))).bind fun r1=>
 bif decide (0≤(IntKind.i64.wrap ((loop.2.length:Int)-1)))then
 bif decide ((IntKind.i64.wrap ((loop.2.length:Int)-1))≤(loop.2.length:Int))then
(Fi arcs (loop.1,((loop.2.take loop.2.length).drop (Int.toNat (IntKind.i64.wrap ((loop.2.length:Int)-1))))) (r1.1,r1.2)).bind fun r2=>
 bif decide (1≤(r2.2.length:Int))then
 bif decide (loop.2.length+((r2.2.take r2.2.length).drop 1).length ≤lim)then
(F7f meet stem part arcs ((loop.1&&((r2.2.take r2.2.length).drop 1).isEmpty),(loop.2++((r2.2.take r2.2.length).drop 1))) t41 t42 (IntKind.i64.wrap (t43+1))).bind fun r=>some r
else none
else none
else none
else none
else none
else none
else 
 some (loop.1,loop.2):=tL F17K
theorem F17E(next from_ goals):F17 next from_ goals=
(F1p next from_ goals).bind fun r=>
 bif decide (r<0)then
 some ((true,[]),((true,[]),false))
else 
(Fi next from_ (false,[r])).bind fun r1=>
(F26 next).bind fun r2=>
 bif decide (0≤r)then
 bif decide (r<(r2.2.length:Int))then
(Fz next (r2.1,r2.2) (r2.2.getD (Int.toNat r) 0)).bind fun r3=>
(F7f r (r1.1,r1.2) (r2.1,r2.2) (r3.1,r3.2) (false,[r]) goals (goals.2.length:Int) 0).bind fun r4=>
 bif decide (0≤(IntKind.i64.wrap ((r4.2.length:Int)-1)))then
 bif decide ((IntKind.i64.wrap ((r4.2.length:Int)-1))<(r4.2.length:Int))then
 bif decide (0≤(r4.2.getD (Int.toNat (IntKind.i64.wrap ((r4.2.length:Int)-1))) 0))then
 bif decide ((r4.2.getD (Int.toNat (IntKind.i64.wrap ((r4.2.length:Int)-1))) 0)<(r3.2.length:Int))then
(Fi (r3.1,r3.2) (r3.2.getD (Int.toNat (r4.2.getD (Int.toNat (IntKind.i64.wrap ((r4.2.length:Int)-1))) 0)) (true,[])) (false,[r])).bind fun r5=>
 bif decide (0≤(IntKind.i64.wrap ((r1.2.length:Int)-1)))then
 bif decide ((IntKind.i64.wrap ((r1.2.length:Int)-1))≤(r1.2.length:Int))then
 bif decide (0≤(IntKind.i64.wrap ((r5.2.length:Int)-1)))then
 bif decide ((IntKind.i64.wrap ((r5.2.length:Int)-1))≤(r5.2.length:Int))then
 bif decide (r4.2.length+((r5.2.take (Int.toNat (IntKind.i64.wrap ((r5.2.length:Int)-1)))).drop 0).length ≤lim)then
 some ((r1.1,((r1.2.take (Int.toNat (IntKind.i64.wrap ((r1.2.length:Int)-1)))).drop 0)),(((r4.1&&((r5.2.take (Int.toNat (IntKind.i64.wrap ((r5.2.length:Int)-1)))).drop 0).isEmpty),(r4.2++((r5.2.take (Int.toNat (IntKind.i64.wrap ((r5.2.length:Int)-1)))).drop 0))),true))
else none
else none
else none
else none
else none
else none
else none
else none
else none
else none
else none:=tC
theorem F97E(t1 out t8 t9 t10):F97 t1 out t8 t9 t10=
 bif decide (t10<t9)then
 bif decide (0≤t10)then
 bif decide (t10<(t8.2.length:Int))then
(F5 t1.2.2).bind fun r=>
 bif (r==0)then
 none
else 
 bif decide (out.2.length+[IntKind.i64.wrap (Int.tdiv (t8.2.getD (Int.toNat t10) 0) r)].length ≤lim)then
(F97 t1 ((out.1&&false),(out.2++[IntKind.i64.wrap (Int.tdiv (t8.2.getD (Int.toNat t10) 0) r)])) t8 t9 (IntKind.i64.wrap (t10+1))).bind fun r=>some r
else none
else none
else none
else 
 some (out.1,out.2):=tL F2mK
theorem F2mE(list a1):F2m list a1=
(F97 a1 (false,[]) list (list.2.length:Int) 0).bind fun r=>
 some (r.1,r.2):=tC
theorem F15E(q v):F15 q v=
(F7 q v).bind fun r=>
(F17 (r.1.1,r.1.2) (r.2.1.1,r.2.1.2) (r.2.2.1,r.2.2.2)).bind fun r1=>
(F2m (r1.1.1,r1.1.2) q).bind fun r2=>
(F2m (r1.2.1.1,r1.2.1.2) q).bind fun r3=>
 some ((r2.1,r2.2),((r3.1,r3.2),r1.2.2)):=tC
theorem F4xE(q v):F4x q v=
(F5o q v).bind fun r=>
 bif !r then
 some ((true,[]),((true,[]),false))
else 
(F2k q v).bind fun r1=>
 bif !r1 then
 some ((true,[]),((true,[]),false))
else 
(F15 q v).bind fun r2=>
 bif !r2.2.2 then
 some ((true,[]),((true,[]),false))
else 
 some ((r2.1.1,r2.1.2),((r2.2.1.1,r2.2.1.2),true)):=tC
theorem F8fE(a b i):F8f a b i=
 bif decide (i<(a.2.length:Int))then
 bif decide (0≤i)then
 bif decide (i<(a.2.length:Int))then
 bif decide (0≤i)then
 bif decide (i<(b.2.length:Int))then
 bif ((a.2.getD (Int.toNat i) 0) !=(b.2.getD (Int.toNat i) 0))then
 some (.inl false)
else 
(F8f a b (IntKind.i64.wrap (i+1))).bind fun r=>some r
else none
else none
else none
else none
else 
 some (.inr ()):=tL F1dK
theorem F1dE(a b):F1d a b=
 bif ((a.2.length:Int) !=(b.2.length:Int))then
 some false
else 
(F8f a b 0).bind fun r=>
 match r with
| .inl y=>
 some y
| .inr z=>
 some true:=tC
theorem F9E(a b):F9 a b=
 bif (a.1 !=b.1)then
 some false
else 
 bif (a.2 !=b.2)then
 some false
else 
 some true:=tC
theorem Fa0E(a b i):Fa0 a b i=
 bif decide (i<(a.2.length:Int))then
 bif decide (0≤i)then
 bif decide (i<(a.2.length:Int))then
 bif decide (0≤i)then
 bif decide (i<(b.2.length:Int))then
(F9 (a.2.getD (Int.toNat i) (0,0)) (b.2.getD (Int.toNat i) (0,0))).bind fun r=>
 bif !r then
 some (.inl false)
else 
(Fa0 a b (IntKind.i64.wrap (i+1))).bind fun r=>some r
else none
else none
else none
else none
else 
 some (.inr ()):=tL FhK
theorem FhE(a b):Fh a b=
 bif ((a.2.length:Int) !=(b.2.length:Int))then
 some false
else 
(Fa0 a b 0).bind fun r=>
 match r with
| .inl y=>
 some y
| .inr z=>
 some true:=tC
theorem F1bE(a b):F1b a b=
 bif (a.1 !=b.1)then
 some false
else 
(Fh a.2 b.2).bind fun r=>
 bif !r then
 some false
else 
 some true:=tC
theorem F82E(a b i):F82 a b i=
 bif decide (i<(a.2.length:Int))then
 bif decide (0≤i)then
 bif decide (i<(a.2.length:Int))then
 bif decide (0≤i)then
 bif decide (i<(b.2.length:Int))then
(F1b (a.2.getD (Int.toNat i) (0,(true,[]))) (b.2.getD (Int.toNat i) (0,(true,[])))).bind fun r=>
 bif !r then
 some (.inl false)
else 
(F82 a b (IntKind.i64.wrap (i+1))).bind fun r=>some r
else none
else none
else none
else none
else 
 some (.inr ()):=tL F3cK
theorem F3cE(a b):F3c a b=
 bif ((a.2.length:Int) !=(b.2.length:Int))then
 some false
else 
(F82 a b 0).bind fun r=>
 match r with
| .inl y=>
 some y
| .inr z=>
 some true:=tC
theorem F1eE(a b):F1e a b=
(Fh a.1 b.1).bind fun r=>
 bif !r then
 some false
else 
(F3c a.2 b.2).bind fun r1=>
 bif !r1 then
 some false
else 
 some true:=tC
theorem F8lE(a b i):F8l a b i=
 bif decide (i<(a.2.length:Int))then
 bif decide (0≤i)then
 bif decide (i<(a.2.length:Int))then
 bif decide (0≤i)then
 bif decide (i<(b.2.length:Int))then
(F1e (a.2.getD (Int.toNat i) ((true,[]),(true,[]))) (b.2.getD (Int.toNat i) ((true,[]),(true,[])))).bind fun r=>
 bif !r then
 some (.inl false)
else 
(F8l a b (IntKind.i64.wrap (i+1))).bind fun r=>some r
else none
else none
else none
else none
else 
 some (.inr ()):=tL F3kK
theorem F3kE(a b):F3k a b=
 bif ((a.2.length:Int) !=(b.2.length:Int))then
 some false
else 
(F8l a b 0).bind fun r=>
 match r with
| .inl y=>
 some y
| .inr z=>
 some true:=tC
theorem F5pE(a b):F5p a b=
 bif (a.1 !=b.1)then
 some false
else 
 bif (a.2.1 !=b.2.1)then
 some false
else 
(Fh a.2.2.1 b.2.2.1).bind fun r=>
 bif !r then
 some false
else 
(F3k a.2.2.2 b.2.2.2).bind fun r1=>
 bif !r1 then
 some false
else 
 some true:=tC
theorem F7yE(a b i):F7y a b i=
 bif decide (i<(a.2.length:Int))then
 bif decide (0≤i)then
 bif decide (i<(a.2.length:Int))then
 bif decide (0≤i)then
 bif decide (i<(b.2.length:Int))then
(Fh (a.2.getD (Int.toNat i) (true,[])) (b.2.getD (Int.toNat i) (true,[]))).bind fun r=>
 bif !r then
 some (.inl false)
else 
(F7y a b (IntKind.i64.wrap (i+1))).bind fun r=>some r
else none
else none
else none
else none
else 
 some (.inr ()):=tL F3bK
theorem F3bE(a b):F3b a b=
 bif ((a.2.length:Int) !=(b.2.length:Int))then
 some false
else 
(F7y a b 0).bind fun r=>
 match r with
| .inl y=>
 some y
| .inr z=>
 some true:=tC
theorem F1kE(a b):F1k a b=
 bif (a.1 !=b.1)then
 some false
else 
 bif (a.2 !=b.2)then
 some false
else 
 some true:=tC
theorem F9nE(a b i):F9n a b i=
 bif decide (i<(a.2.length:Int))then
 bif decide (0≤i)then
 bif decide (i<(a.2.length:Int))then
 bif decide (0≤i)then
 bif decide (i<(b.2.length:Int))then
(F1k (a.2.getD (Int.toNat i) (0,0)) (b.2.getD (Int.toNat i) (0,0))).bind fun r=>
 bif !r then
 some (.inl false)
else 
(F9n a b (IntKind.i64.wrap (i+1))).bind fun r=>some r
else none
else none
else none
else none
else 
 some (.inr ()):=tL F3jK
theorem F3jE(a b):F3j a b=
 bif ((a.2.length:Int) !=(b.2.length:Int))then
 some false
else 
(F9n a b 0).bind fun r=>
 match r with
| .inl y=>
 some y
| .inr z=>
 some true:=tC
theorem F5nE(a b):F5n a b=
(F5p a.1 b.1).bind fun r=>
 bif !r then
 some false
else 
(F3b a.2.1 b.2.1).bind fun r1=>
 bif !r1 then
 some false
else 
(F3j a.2.2 b.2.2).bind fun r2=>
 bif !r2 then
 some false
else 
 some true:=tC
theorem F5dE(a b):F5d a b=
(F1d a b).bind fun r=>
 bif !r then
 some false
else 
 some true:=tC
theorem F8qE(a k_ i):F8q a k_ i=
 bif decide (i<(a.2.length:Int))then
 bif decide (0≤i)then
 bif decide (i<(a.2.length:Int))then
 bif decide (0≤i)then
 bif decide (i<((a.2.set (Int.toNat i) (k_,(a.2.getD (Int.toNat i) (0,0)).2)).length :Int))then
(F8q (a.1,((a.2.set (Int.toNat i) (k_,(a.2.getD (Int.toNat i) (0,0)).2)).set (Int.toNat i) (((a.2.set (Int.toNat i) (k_,(a.2.getD (Int.toNat i) (0,0)).2)).getD (Int.toNat i) (0,0)).1,IntKind.u64.wrap (IntKind.i64.wrap (k_+1))))) (IntKind.i64.wrap ((IntKind.i64.wrap (k_+1))+1)) (IntKind.i64.wrap (i+1))).bind fun r=>some r
else none
else none
else none
else none
else 
 some ((a.1,a.2),k_):=tL FfK
theorem FfE(a k_):Ff a k_=
(F8q (a.1,a.2) k_ 0).bind fun r=>
 some ((r.1.1,r.1.2),r.2):=tC
theorem F91E(a k_ i):F91 a k_ i=
 bif decide (i<(a.2.length:Int))then
 bif decide (0≤i)then
 bif decide (i<(a.2.length:Int))then
 bif decide (0≤i)then
 bif decide (i<((a.2.set (Int.toNat i) (k_,(a.2.getD (Int.toNat i) (0,(true,[]))).2)).length :Int))then
(Ff ((((a.2.set (Int.toNat i) (k_,(a.2.getD (Int.toNat i) (0,(true,[]))).2)).getD (Int.toNat i) (0,(true,[]))).2).1,(((a.2.set (Int.toNat i) (k_,(a.2.getD (Int.toNat i) (0,(true,[]))).2)).getD (Int.toNat i) (0,(true,[]))).2).2) (IntKind.i64.wrap (k_+1))).bind fun r=>
(F91 (a.1,((a.2.set (Int.toNat i) (k_,(a.2.getD (Int.toNat i) (0,(true,[]))).2)).set (Int.toNat i) (((a.2.set (Int.toNat i) (k_,(a.2.getD (Int.toNat i) (0,(true,[]))).2)).getD (Int.toNat i) (0,(true,[]))).1,(r.1.1,r.1.2)))) r.2 (IntKind.i64.wrap (i+1))).bind fun r=>some r
else none
else none
else none
else none
else 
 some ((a.1,a.2),k_):=tL F3lK
theorem F3lE(a k_):F3l a k_=
(F91 (a.1,a.2) k_ 0).bind fun r=>
 some ((r.1.1,r.1.2),r.2):=tC
theorem F7iE(a k_ i):F7i a k_ i=
 bif decide (i<(a.2.length:Int))then
 bif decide (0≤i)then
 bif decide (i<(a.2.length:Int))then
(Ff (((a.2.getD (Int.toNat i) ((true,[]),(true,[]))).1).1,((a.2.getD (Int.toNat i) ((true,[]),(true,[]))).1).2) k_).bind fun r=>
 bif decide (0≤i)then
 bif decide (i<(a.2.length:Int))then
(F3l ((((a.2.set (Int.toNat i) ((r.1.1,r.1.2),(a.2.getD (Int.toNat i) ((true,[]),(true,[]))).2)).getD (Int.toNat i) ((true,[]),(true,[]))).2).1,(((a.2.set (Int.toNat i) ((r.1.1,r.1.2),(a.2.getD (Int.toNat i) ((true,[]),(true,[]))).2)).getD (Int.toNat i) ((true,[]),(true,[]))).2).2) r.2).bind fun r1=>
(F7i (a.1,((a.2.set (Int.toNat i) ((r.1.1,r.1.2),(a.2.getD (Int.toNat i) ((true,[]),(true,[]))).2)).set (Int.toNat i) (((a.2.set (Int.toNat i) ((r.1.1,r.1.2),(a.2.getD (Int.toNat i) ((true,[]),(true,[]))).2)).getD (Int.toNat i) ((true,[]),(true,[]))).1,(r1.1.1,r1.1.2)))) r1.2 (IntKind.i64.wrap (i+1))).bind fun r=>some r
else none
else none
else none
else none
else 
 some ((a.1,a.2),k_):=tL F3oK
theorem F3oE(a k_):F3o a k_=
(F7i (a.1,a.2) k_ 0).bind fun r=>
 some ((r.1.1,r.1.2),r.2):=tC
theorem F5wE(a0_0 a0_1 a0_2 a0_3 k_):F5w a0_0 a0_1 a0_2 a0_3 k_=
(Ff (a0_2.1,a0_2.2) k_).bind fun r=>
(F3o (a0_3.1,a0_3.2) r.2).bind fun r1=>
 some ((r.1.1,r.1.2),((r1.1.1,r1.1.2),r1.2)):=tC
theorem F94E(a k_ i):F94 a k_ i=
 bif decide (i<(a.2.length:Int))then
 bif decide (0≤i)then
 bif decide (i<(a.2.length:Int))then
(Ff ((a.2.getD (Int.toNat i) (true,[])).1,(a.2.getD (Int.toNat i) (true,[])).2) k_).bind fun r=>
(F94 (a.1,(a.2.set (Int.toNat i) (r.1.1,r.1.2))) r.2 (IntKind.i64.wrap (i+1))).bind fun r=>some r
else none
else none
else 
 some ((a.1,a.2),k_):=tL F2xK
theorem F2xE(a k_):F2x a k_=
(F94 (a.1,a.2) k_ 0).bind fun r=>
 some ((r.1.1,r.1.2),r.2):=tC
theorem F8eE(a k_ i):F8e a k_ i=
 bif decide (i<(a.2.length:Int))then
 bif decide (0≤i)then
 bif decide (i<(a.2.length:Int))then
 bif decide (0≤i)then
 bif decide (i<((a.2.set (Int.toNat i) (k_,(a.2.getD (Int.toNat i) (0,0)).2)).length :Int))then
(F8e (a.1,((a.2.set (Int.toNat i) (k_,(a.2.getD (Int.toNat i) (0,0)).2)).set (Int.toNat i) (((a.2.set (Int.toNat i) (k_,(a.2.getD (Int.toNat i) (0,0)).2)).getD (Int.toNat i) (0,0)).1,IntKind.i64.wrap (k_+1)))) (IntKind.i64.wrap ((IntKind.i64.wrap (k_+1))+1)) (IntKind.i64.wrap (i+1))).bind fun r=>some r
else none
else none
else none
else none
else 
 some ((a.1,a.2),k_):=tL F2uK
theorem F2uE(a k_):F2u a k_=
(F8e (a.1,a.2) k_ 0).bind fun r=>
 some ((r.1.1,r.1.2),r.2):=tC
theorem F68E(a0_0 a0_1 a0_2 a0_3 a0_4 a0_5 k_):F68 a0_0 a0_1 a0_2 a0_3 a0_4 a0_5 k_=
(F5w a0_0 a0_1 (a0_2.1,a0_2.2) (a0_3.1,a0_3.2) k_).bind fun r=>
(F2x (a0_4.1,a0_4.2) r.2.2).bind fun r1=>
(F2u (a0_5.1,a0_5.2) r1.2).bind fun r2=>
 some ((r.1.1,r.1.2),((r.2.1.1,r.2.1.2),((r1.1.1,r1.1.2),((r2.1.1,r2.1.2),r2.2)))):=tC
theorem F7cE(a k_ i):F7c a k_ i=
 bif decide (i<(a.2.length:Int))then
 bif decide (0≤i)then
 bif decide (i<(a.2.length:Int))then
(F7c (a.1,(a.2.set (Int.toNat i) k_)) (IntKind.i64.wrap (k_+1)) (IntKind.i64.wrap (i+1))).bind fun r=>some r
else none
else none
else 
 some ((a.1,a.2),k_):=tL F20K
theorem F20E(a k_):F20 a k_=
(F7c (a.1,a.2) k_ 0).bind fun r=>
 some ((r.1.1,r.1.2),r.2):=tC
theorem F5jE(a k_):F5j a k_=
(F20 (a.1,a.2) k_).bind fun r=>
 some ((r.1.1,r.1.2),r.2):=tC
theorem F7nE(a k_ i):F7n a k_ i=
 bif decide (i<(a.2.length:Int))then
 bif decide (0≤i)then
 bif decide (i<(a.2.length:Int))then
 bif ((a.2.getD (Int.toNat i) 0) !=k_)then
 some (.inl (-1))
else 
(F7n a (IntKind.i64.wrap (k_+1)) (IntKind.i64.wrap (i+1))).bind fun r=>some r
else none
else none
else 
 some (.inr k_):=tL F1sK
theorem F1sE(a k_):F1s a k_=
(F7n a k_ 0).bind fun r=>
 match r with
| .inl y=>
 some y
| .inr z=>
 some z:=tC
theorem F8kE(aQ aV):F8k aQ aV=
(F71 aQ 1048576).bind fun r=>
 bif decide (r<0)then
 some true
else 
(F78 aV r).bind fun r1=>
 bif decide (r1<0)then
 some true
else 
(F48 aQ).bind fun r2=>
(F47 aV).bind fun r3=>
(F57 ((r2.1,(r2.2.1,((r2.2.2.1.1,r2.2.2.1.2),(r2.2.2.2.1.1,r2.2.2.2.1.2)))),((r2.2.2.2.2.1.1,r2.2.2.2.2.1.2),(r2.2.2.2.2.2.1,r2.2.2.2.2.2.2))) (r3.1,r3.2)).bind fun r4=>
(F48 aQ).bind fun r5=>
(F47 aV).bind fun r6=>
(F4x ((r5.1,(r5.2.1,((r5.2.2.1.1,r5.2.2.1.2),(r5.2.2.2.1.1,r5.2.2.2.1.2)))),((r5.2.2.2.2.1.1,r5.2.2.2.2.1.2),(r5.2.2.2.2.2.1,r5.2.2.2.2.2.2))) (r6.1,r6.2)).bind fun r7=>
(F1d (r7.1.1,r7.1.2) (r4.1.1,r4.1.2)).bind fun r8=>
 bif !r8 then
 some false
else 
(F1d (r7.2.1.1,r7.2.1.2) (r4.2.1.1,r4.2.1.2)).bind fun r9=>
 bif !r9 then
 some false
else 
 bif !(r7.2.2==r4.2.2)then
 some false
else 
(F48 aQ).bind fun r10=>
(F5n ((r5.1,(r5.2.1,((r5.2.2.1.1,r5.2.2.1.2),(r5.2.2.2.1.1,r5.2.2.2.1.2)))),((r5.2.2.2.2.1.1,r5.2.2.2.2.1.2),(r5.2.2.2.2.2.1,r5.2.2.2.2.2.2))) ((r10.1,(r10.2.1,((r10.2.2.1.1,r10.2.2.1.2),(r10.2.2.2.1.1,r10.2.2.2.1.2)))),((r10.2.2.2.2.1.1,r10.2.2.2.2.1.2),(r10.2.2.2.2.2.1,r10.2.2.2.2.2.2)))).bind fun r11=>
 bif !r11 then
 some false
else 
(F47 aV).bind fun r12=>
(F5d (r6.1,r6.2) (r12.1,r12.2)).bind fun r13=>
 bif !r13 then
 some false
else 
(F68 r5.1 r5.2.1 (r5.2.2.1.1,r5.2.2.1.2) (r5.2.2.2.1.1,r5.2.2.2.1.2) (r5.2.2.2.2.1.1,r5.2.2.2.2.1.2) (r5.2.2.2.2.2.1,r5.2.2.2.2.2.2) 1).bind fun r14=>
(F5j (r6.1,r6.2) r14.2.2.2.2).bind fun r15=>
 bif decide (r15.2<0)then
 some false
else 
(F1d (r7.1.1,r7.1.2) (r4.1.1,r4.1.2)).bind fun r16=>
 bif !r16 then
 some false
else 
(F1d (r7.2.1.1,r7.2.1.2) (r4.2.1.1,r4.2.1.2)).bind fun r17=>
 bif !r17 then
 some false
else 
 bif !(r7.2.2==r4.2.2)then
 some false
else 
(F20 (r7.1.1,r7.1.2) 1).bind fun r18=>
(F20 (r7.2.1.1,r7.2.1.2) r18.2).bind fun r19=>
(F1s (r18.1.1,r18.1.2) 1).bind fun r20=>
 bif decide (r20<0)then
 some false
else 
(F1s (r19.1.1,r19.1.2) r20).bind fun r21=>
 bif decide (r21<0)then
 some false
else 
 bif (r21 !=r19.2)then
 some false
else 
(F48 aQ).bind fun r22=>
(F47 aV).bind fun r23=>
(F4x ((r22.1,(r22.2.1,((r22.2.2.1.1,r22.2.2.1.2),(r22.2.2.2.1.1,r22.2.2.2.1.2)))),((r22.2.2.2.2.1.1,r22.2.2.2.2.1.2),(r22.2.2.2.2.2.1,r22.2.2.2.2.2.2))) (r23.1,r23.2)).bind fun r24=>
(F1d (r24.1.1,r24.1.2) (r4.1.1,r4.1.2)).bind fun r25=>
 bif !r25 then
 some false
else 
(F1d (r24.2.1.1,r24.2.1.2) (r4.2.1.1,r4.2.1.2)).bind fun r26=>
 bif !r26 then
 some false
else 
 bif !(r24.2.2==r4.2.2)then
 some false
else 
(F1s (r18.1.1,r18.1.2) 1).bind fun r27=>
 bif decide (r27<0)then
 some false
else 
(F1s (r19.1.1,r19.1.2) r27).bind fun r28=>
 bif decide (r28<0)then
 some false
else 
 bif (r28 !=r19.2)then
 some false
else 
 some true:=tC
theorem fit:Fit Tryz.prog H:=Jgx (exts:=extsL) (tys:=tysL) (cells:=cellsL) (keys:=keysL) (mtys:=mtysL) rfl rfl rfl rfl rfl (by kernel_rfl) (by kernel_rfl) (by kernel_rfl) ⟨⟨Tryz.func59,by kernel_rfl,by kernel_rfl⟩,⟨Tryz.func264,by kernel_rfl,by kernel_rfl⟩,⟨Tryz.func206,by kernel_rfl,by kernel_rfl⟩,⟨Tryz.func137,by kernel_rfl,by kernel_rfl⟩,⟨Tryz.func77,by kernel_rfl,by kernel_rfl⟩,⟨Tryz.func31,by kernel_rfl,by kernel_rfl⟩,⟨Tryz.func22,by kernel_rfl,by kernel_rfl⟩,⟨Tryz.func32,by kernel_rfl,by kernel_rfl⟩,⟨Tryz.func6,by kernel_rfl,by kernel_rfl⟩,⟨Tryz.func50,by kernel_rfl,by kernel_rfl⟩,⟨Tryz.func13,by kernel_rfl,by kernel_rfl⟩,⟨Tryz.func125,by kernel_rfl,by kernel_rfl⟩,⟨Tryz.func69,by kernel_rfl,by kernel_rfl⟩,⟨Tryz.func269,by kernel_rfl,by kernel_rfl⟩,⟨Tryz.func212,by kernel_rfl,by kernel_rfl⟩,⟨Tryz.func146,by kernel_rfl,by kernel_rfl⟩,⟨Tryz.func87,by kernel_rfl,by kernel_rfl⟩,⟨Tryz.func39,by kernel_rfl,by kernel_rfl⟩,⟨Tryz.func24,by kernel_rfl,by kernel_rfl⟩,⟨Tryz.func88,by kernel_rfl,by kernel_rfl⟩,⟨Tryz.func40,by kernel_rfl,by kernel_rfl⟩,⟨Tryz.func8,by kernel_rfl,by kernel_rfl⟩,⟨Tryz.func9,by kernel_rfl,by kernel_rfl⟩,⟨Tryz.func15,by kernel_rfl,by kernel_rfl⟩,⟨Tryz.func62,by kernel_rfl,by kernel_rfl⟩,⟨Tryz.func247,by kernel_rfl,by kernel_rfl⟩,⟨Tryz.func207,by kernel_rfl,by kernel_rfl⟩,⟨Tryz.func208,by kernel_rfl,by kernel_rfl⟩,⟨Tryz.func280,by kernel_rfl,by kernel_rfl⟩,⟨Tryz.func248,by kernel_rfl,by kernel_rfl⟩,⟨Tryz.func194,by kernel_rfl,by kernel_rfl⟩,⟨Tryz.func119,by kernel_rfl,by kernel_rfl⟩,⟨Tryz.func244,by kernel_rfl,by kernel_rfl⟩,⟨Tryz.func191,by kernel_rfl,by kernel_rfl⟩,⟨Tryz.func117,by kernel_rfl,by kernel_rfl⟩,⟨Tryz.func245,by kernel_rfl,by kernel_rfl⟩,⟨Tryz.func246,by kernel_rfl,by kernel_rfl⟩,⟨Tryz.func192,by kernel_rfl,by kernel_rfl⟩,⟨Tryz.func141,by kernel_rfl,by kernel_rfl⟩,⟨Tryz.func193,by kernel_rfl,by kernel_rfl⟩,⟨Tryz.func118,by kernel_rfl,by kernel_rfl⟩,⟨Tryz.func60,by kernel_rfl,by kernel_rfl⟩,⟨Tryz.func79,by kernel_rfl,by kernel_rfl⟩,⟨Tryz.func103,by kernel_rfl,by kernel_rfl⟩,⟨Tryz.func51,by kernel_rfl,by kernel_rfl⟩,⟨Tryz.func104,by kernel_rfl,by kernel_rfl⟩,⟨Tryz.func105,by kernel_rfl,by kernel_rfl⟩,⟨Tryz.func81,by kernel_rfl,by kernel_rfl⟩,⟨Tryz.func210,by kernel_rfl,by kernel_rfl⟩,⟨Tryz.func289,by kernel_rfl,by kernel_rfl⟩,⟨Tryz.func265,by kernel_rfl,by kernel_rfl⟩,⟨Tryz.func266,by kernel_rfl,by kernel_rfl⟩,⟨Tryz.func267,by kernel_rfl,by kernel_rfl⟩,⟨Tryz.func268,by kernel_rfl,by kernel_rfl⟩,⟨Tryz.func209,by kernel_rfl,by kernel_rfl⟩,⟨Tryz.func139,by kernel_rfl,by kernel_rfl⟩,⟨Tryz.func80,by kernel_rfl,by kernel_rfl⟩,⟨Tryz.func86,by kernel_rfl,by kernel_rfl⟩,⟨Tryz.func52,by kernel_rfl,by kernel_rfl⟩,⟨Tryz.func225,by kernel_rfl,by kernel_rfl⟩,⟨Tryz.func224,by kernel_rfl,by kernel_rfl⟩,⟨Tryz.func211,by kernel_rfl,by kernel_rfl⟩,⟨Tryz.func277,by kernel_rfl,by kernel_rfl⟩,⟨Tryz.func226,by kernel_rfl,by kernel_rfl⟩,⟨Tryz.func159,by kernel_rfl,by kernel_rfl⟩,⟨Tryz.func160,by kernel_rfl,by kernel_rfl⟩,⟨Tryz.func140,by kernel_rfl,by kernel_rfl⟩,⟨Tryz.func143,by kernel_rfl,by kernel_rfl⟩,⟨Tryz.func142,by kernel_rfl,by kernel_rfl⟩,⟨Tryz.func83,by kernel_rfl,by kernel_rfl⟩,⟨Tryz.func123,by kernel_rfl,by kernel_rfl⟩,⟨Tryz.func165,by kernel_rfl,by kernel_rfl⟩,⟨Tryz.func161,by kernel_rfl,by kernel_rfl⟩,⟨Tryz.func82,by kernel_rfl,by kernel_rfl⟩,⟨Tryz.func162,by kernel_rfl,by kernel_rfl⟩,⟨Tryz.func164,by kernel_rfl,by kernel_rfl⟩,⟨Tryz.func163,by kernel_rfl,by kernel_rfl⟩,⟨Tryz.func35,by kernel_rfl,by kernel_rfl⟩,⟨Tryz.func106,by kernel_rfl,by kernel_rfl⟩,⟨Tryz.func166,by kernel_rfl,by kernel_rfl⟩,⟨Tryz.func228,by kernel_rfl,by kernel_rfl⟩,⟨Tryz.func227,by kernel_rfl,by kernel_rfl⟩,⟨Tryz.func169,by kernel_rfl,by kernel_rfl⟩,⟨Tryz.func170,by kernel_rfl,by kernel_rfl⟩,⟨Tryz.func167,by kernel_rfl,by kernel_rfl⟩,⟨Tryz.func168,by kernel_rfl,by kernel_rfl⟩,⟨Tryz.func107,by kernel_rfl,by kernel_rfl⟩,⟨Tryz.func108,by kernel_rfl,by kernel_rfl⟩,⟨Tryz.func53,by kernel_rfl,by kernel_rfl⟩,⟨Tryz.func14,by kernel_rfl,by kernel_rfl⟩,⟨Tryz.func249,by kernel_rfl,by kernel_rfl⟩,⟨Tryz.func250,by kernel_rfl,by kernel_rfl⟩,⟨Tryz.func282,by kernel_rfl,by kernel_rfl⟩,⟨Tryz.func94,by kernel_rfl,by kernel_rfl⟩,⟨Tryz.func290,by kernel_rfl,by kernel_rfl⟩,⟨Tryz.func283,by kernel_rfl,by kernel_rfl⟩,⟨Tryz.func284,by kernel_rfl,by kernel_rfl⟩,⟨Tryz.func147,by kernel_rfl,by kernel_rfl⟩,⟨Tryz.func90,by kernel_rfl,by kernel_rfl⟩,⟨Tryz.func255,by kernel_rfl,by kernel_rfl⟩,⟨Tryz.func256,by kernel_rfl,by kernel_rfl⟩,⟨Tryz.func199,by kernel_rfl,by kernel_rfl⟩,⟨Tryz.func130,by kernel_rfl,by kernel_rfl⟩,⟨Tryz.func253,by kernel_rfl,by kernel_rfl⟩,⟨Tryz.func252,by kernel_rfl,by kernel_rfl⟩,⟨Tryz.func281,by kernel_rfl,by kernel_rfl⟩,⟨Tryz.func251,by kernel_rfl,by kernel_rfl⟩,⟨Tryz.func196,by kernel_rfl,by kernel_rfl⟩,⟨Tryz.func126,by kernel_rfl,by kernel_rfl⟩,⟨Tryz.func98,by kernel_rfl,by kernel_rfl⟩,⟨Tryz.func254,by kernel_rfl,by kernel_rfl⟩,⟨Tryz.func197,by kernel_rfl,by kernel_rfl⟩,⟨Tryz.func187,by kernel_rfl,by kernel_rfl⟩,⟨Tryz.func233,by kernel_rfl,by kernel_rfl⟩,⟨Tryz.func219,by kernel_rfl,by kernel_rfl⟩,⟨Tryz.func220,by kernel_rfl,by kernel_rfl⟩,⟨Tryz.func189,by kernel_rfl,by kernel_rfl⟩,⟨Tryz.func127,by kernel_rfl,by kernel_rfl⟩,⟨Tryz.func129,by kernel_rfl,by kernel_rfl⟩,⟨Tryz.func198,by kernel_rfl,by kernel_rfl⟩,⟨Tryz.func128,by kernel_rfl,by kernel_rfl⟩,⟨Tryz.func70,by kernel_rfl,by kernel_rfl⟩,⟨Tryz.func89,by kernel_rfl,by kernel_rfl⟩,⟨Tryz.func171,by kernel_rfl,by kernel_rfl⟩,⟨Tryz.func109,by kernel_rfl,by kernel_rfl⟩,⟨Tryz.func54,by kernel_rfl,by kernel_rfl⟩,⟨Tryz.func173,by kernel_rfl,by kernel_rfl⟩,⟨Tryz.func111,by kernel_rfl,by kernel_rfl⟩,⟨Tryz.func230,by kernel_rfl,by kernel_rfl⟩,⟨Tryz.func172,by kernel_rfl,by kernel_rfl⟩,⟨Tryz.func110,by kernel_rfl,by kernel_rfl⟩,⟨Tryz.func44,by kernel_rfl,by kernel_rfl⟩,⟨Tryz.func270,by kernel_rfl,by kernel_rfl⟩,⟨Tryz.func271,by kernel_rfl,by kernel_rfl⟩,⟨Tryz.func213,by kernel_rfl,by kernel_rfl⟩,⟨Tryz.func214,by kernel_rfl,by kernel_rfl⟩,⟨Tryz.func215,by kernel_rfl,by kernel_rfl⟩,⟨Tryz.func216,by kernel_rfl,by kernel_rfl⟩,⟨Tryz.func148,by kernel_rfl,by kernel_rfl⟩,⟨Tryz.func93,by kernel_rfl,by kernel_rfl⟩,⟨Tryz.func43,by kernel_rfl,by kernel_rfl⟩,⟨Tryz.func97,by kernel_rfl,by kernel_rfl⟩,⟨Tryz.func55,by kernel_rfl,by kernel_rfl⟩,⟨Tryz.func115,by kernel_rfl,by kernel_rfl⟩,⟨Tryz.func150,by kernel_rfl,by kernel_rfl⟩,⟨Tryz.func174,by kernel_rfl,by kernel_rfl⟩,⟨Tryz.func231,by kernel_rfl,by kernel_rfl⟩,⟨Tryz.func272,by kernel_rfl,by kernel_rfl⟩,⟨Tryz.func218,by kernel_rfl,by kernel_rfl⟩,⟨Tryz.func217,by kernel_rfl,by kernel_rfl⟩,⟨Tryz.func149,by kernel_rfl,by kernel_rfl⟩,⟨Tryz.func238,by kernel_rfl,by kernel_rfl⟩,⟨Tryz.func180,by kernel_rfl,by kernel_rfl⟩,⟨Tryz.func175,by kernel_rfl,by kernel_rfl⟩,⟨Tryz.func236,by kernel_rfl,by kernel_rfl⟩,⟨Tryz.func232,by kernel_rfl,by kernel_rfl⟩,⟨Tryz.func176,by kernel_rfl,by kernel_rfl⟩,⟨Tryz.func235,by kernel_rfl,by kernel_rfl⟩,⟨Tryz.func234,by kernel_rfl,by kernel_rfl⟩,⟨Tryz.func177,by kernel_rfl,by kernel_rfl⟩,⟨Tryz.func178,by kernel_rfl,by kernel_rfl⟩,⟨Tryz.func181,by kernel_rfl,by kernel_rfl⟩,⟨Tryz.func278,by kernel_rfl,by kernel_rfl⟩,⟨Tryz.func234,by kernel_rfl,by kernel_rfl⟩,⟨Tryz.func237,by kernel_rfl,by kernel_rfl⟩,⟨Tryz.func179,by kernel_rfl,by kernel_rfl⟩,⟨Tryz.func112,by kernel_rfl,by kernel_rfl⟩,⟨Tryz.func239,by kernel_rfl,by kernel_rfl⟩,⟨Tryz.func279,by kernel_rfl,by kernel_rfl⟩,⟨Tryz.func243,by kernel_rfl,by kernel_rfl⟩,⟨Tryz.func184,by kernel_rfl,by kernel_rfl⟩,⟨Tryz.func240,by kernel_rfl,by kernel_rfl⟩,⟨Tryz.func182,by kernel_rfl,by kernel_rfl⟩,⟨Tryz.func241,by kernel_rfl,by kernel_rfl⟩,⟨Tryz.func242,by kernel_rfl,by kernel_rfl⟩,⟨Tryz.func147,by kernel_rfl,by kernel_rfl⟩,⟨Tryz.func183,by kernel_rfl,by kernel_rfl⟩,⟨Tryz.func185,by kernel_rfl,by kernel_rfl⟩,⟨Tryz.func188,by kernel_rfl,by kernel_rfl⟩,⟨Tryz.func147,by kernel_rfl,by kernel_rfl⟩,⟨Tryz.func186,by kernel_rfl,by kernel_rfl⟩,⟨Tryz.func113,by kernel_rfl,by kernel_rfl⟩,⟨Tryz.func114,by kernel_rfl,by kernel_rfl⟩,⟨Tryz.func56,by kernel_rfl,by kernel_rfl⟩,⟨Tryz.func16,by kernel_rfl,by kernel_rfl⟩,⟨Tryz.func12,by kernel_rfl,by kernel_rfl⟩,⟨Tryz.func136,by kernel_rfl,by kernel_rfl⟩,⟨Tryz.func74,by kernel_rfl,by kernel_rfl⟩,⟨Tryz.func276,by kernel_rfl,by kernel_rfl⟩,⟨Tryz.func223,by kernel_rfl,by kernel_rfl⟩,⟨Tryz.func158,by kernel_rfl,by kernel_rfl⟩,⟨Tryz.func101,by kernel_rfl,by kernel_rfl⟩,⟨Tryz.func48,by kernel_rfl,by kernel_rfl⟩,⟨Tryz.func27,by kernel_rfl,by kernel_rfl⟩,⟨Tryz.func102,by kernel_rfl,by kernel_rfl⟩,⟨Tryz.func49,by kernel_rfl,by kernel_rfl⟩,⟨Tryz.func11,by kernel_rfl,by kernel_rfl⟩,⟨Tryz.func17,by kernel_rfl,by kernel_rfl⟩,⟨Tryz.func75,by kernel_rfl,by kernel_rfl⟩,⟨Tryz.func190,by kernel_rfl,by kernel_rfl⟩,⟨Tryz.func116,by kernel_rfl,by kernel_rfl⟩,⟨Tryz.func57,by kernel_rfl,by kernel_rfl⟩,⟨Tryz.func28,by kernel_rfl,by kernel_rfl⟩,⟨Tryz.func58,by kernel_rfl,by kernel_rfl⟩,⟨Tryz.func18,by kernel_rfl,by kernel_rfl⟩,⟨Tryz.func20,by kernel_rfl,by kernel_rfl⟩,⟨Tryz.func19,by kernel_rfl,by kernel_rfl⟩,⟨Tryz.func21,by kernel_rfl,by kernel_rfl⟩,⟨Tryz.func4,by kernel_rfl,by kernel_rfl⟩,trivial⟩ trivial (by kernel_rfl)
theorem nats:Jdl Tryz.prog H:=Jh1 (keys:=keysL) rfl ⟨.plain rfl,.plain rfl,.plain rfl,.plain rfl,.plain rfl,.plain rfl,.plain rfl,.plain rfl,.plain rfl,.plain rfl,.plain rfl,.plain rfl,.plain rfl,.plain rfl,.plain rfl,.plain rfl,.plain rfl,.plain rfl,.plain rfl,.plain rfl,.plain rfl,.plain rfl,.plain rfl,.plain rfl,.plain rfl,.plain rfl,.plain rfl,.plain rfl,.plain rfl,.plain rfl,.plain rfl,.plain rfl,.plain rfl,.plain rfl,.plain rfl,.plain rfl,.plain rfl,.plain rfl,.plain rfl,.plain rfl,.plain rfl,.plain rfl,.plain rfl,.plain rfl,.plain rfl,.plain rfl,.plain rfl,.plain rfl,.plain rfl,.plain rfl,.plain rfl,.plain rfl,.plain rfl,.plain rfl,.plain rfl,.plain rfl,.plain rfl,.plain rfl,.plain rfl,.plain rfl,.plain rfl,.plain rfl,.plain rfl,.plain rfl,.plain rfl,.plain rfl,.plain rfl,.plain rfl,.plain rfl,.plain rfl,.plain rfl,.plain rfl,.plain rfl,.plain rfl,.plain rfl,.plain rfl,.plain rfl,.plain rfl,.plain rfl,.plain rfl,.plain rfl,.plain rfl,.plain rfl,.plain rfl,.plain rfl,.plain rfl,.plain rfl,.plain rfl,.plain rfl,.plain rfl,.plain rfl,.plain rfl,.plain rfl,.plain rfl,.plain rfl,.plain rfl,.plain rfl,.plain rfl,.plain rfl,.plain rfl,.plain rfl,.plain rfl,.plain rfl,.plain rfl,.plain rfl,.plain rfl,.plain rfl,.plain rfl,.plain rfl,.plain rfl,.plain rfl,.plain rfl,.plain rfl,.plain rfl,.sort Tryz.sortOk,.compact (by decide) Tryz.compactOk,.plain rfl,.plain rfl,.plain rfl,.plain rfl,.plain rfl,.plain rfl,.plain rfl,.plain rfl,.plain rfl,.plain rfl,.plain rfl,.plain rfl,.plain rfl,.plain rfl,.plain rfl,.plain rfl,.plain rfl,.plain rfl,.plain rfl,.plain rfl,.plain rfl,.plain rfl,.plain rfl,.plain rfl,.plain rfl,.plain rfl,.plain rfl,.plain rfl,.plain rfl,.plain rfl,.plain rfl,.plain rfl,.plain rfl,.plain rfl,.plain rfl,.plain rfl,.plain rfl,.plain rfl,.plain rfl,.plain rfl,.plain rfl,.plain rfl,.plain rfl,.plain rfl,.plain rfl,.plain rfl,.plain rfl,.plain rfl,.plain rfl,.plain rfl,.plain rfl,.plain rfl,.plain rfl,.plain rfl,.plain rfl,.plain rfl,.plain rfl,.plain rfl,.plain rfl,.plain rfl,.plain rfl,.plain rfl,.plain rfl,.plain rfl,.plain rfl,.plain rfl,.plain rfl,.plain rfl,.plain rfl,.plain rfl,.plain rfl,.plain rfl,.plain rfl,.plain rfl,.plain rfl,.plain rfl,.plain rfl,.plain rfl,.plain rfl,.plain rfl,.plain rfl,.plain rfl,.plain rfl,.plain rfl,.plain rfl,.plain rfl,.plain rfl,.plain rfl,.plain rfl,.plain rfl,.plain rfl,.plain rfl,.plain rfl,trivial⟩
end Go.Proofs.YtedfhboklcfanaaGreat.R
