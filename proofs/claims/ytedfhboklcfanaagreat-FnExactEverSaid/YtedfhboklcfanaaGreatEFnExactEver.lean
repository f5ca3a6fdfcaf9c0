/- The functions of the law FnExactEver as equations:the other part. -/
import Derived.Test.YtedfhboklcfanaaGreatEFnExactEverA
import Derived.KernelRfl
set_option linter.all false
set_option maxRecDepth 4000
namespace Go.Proofs.YtedfhboklcfanaaGreat.R
open Go.Rf Go.Proofs
open Go.IntKind (i64 u64)
open Int (toNat)
theorem F39E(p c):F39 p c=
(F5b p c.1).bind fun r=>
 bif !r then
 some false
else 
(F84 p c c.2 (c.2.2.length:Int) 0).bind fun r1=>
 match r1 with
| .inl y=>
 some y
| .inr z=>
 some true:=tC
theorem F8pE(c a1):F8p c a1=
(F39 a1 c).bind fun r=>
 some (!r):=tC
theorem FbeE(s f t7 t8):Fbe s f t7 t8=
 bif t8<t7 then
 bif 0≤t8 then
 bif t8<(s.2.length:Int) then
(F8p (s.2.getD (toNat t8) ((true,[]),(true,[]))) f.1).bind fun r=>
 bif r then
 some (.inl t8)
else 
(Fbe s f t7 (i64.wrap (t8+1))).bind fun r=>some r
else none
else none
else 
 some (.inr ()):=tL F3mK
theorem F3mE(s f):F3m s f=
(Fbe s f (s.2.length:Int) 0).bind fun r=>
 match r with
| .inl y=>
 some y
| .inr z=>
 some (-1):=tC
theorem F8vE(s f):F8v s f=
(F3m s f).bind fun r=>
 some (decide (r≥0)):=tC
theorem F4zE(p):F4z p=
(F5j p.1).bind fun r=>
 bif !r then
 some false
else 
(F5u p.2.1).bind fun r1=>
 bif !r1 then
 some false
else 
(F5b p p.2.2.1).bind fun r2=>
 bif !r2 then
 some false
else 
 bif (p.2.2.2.2.length:Int)<1 then
 some false
else 
 bif (p.2.2.2.2.length:Int)>6 then
 some false
else 
(F8v p.2.2.2 (p,())).bind fun r3=>
 some (!r3):=tC
theorem F5qE(p):F5q p=
(F4z p).bind fun r=>
 bif r then
 some (decide ((i64.wrap (p.1*p.2.1))≤5))
else 
 some false:=tC
theorem F5oE(op):F5o op=
 bif (op==1)then
 bif (op==1)then
 some 0
else 
 bif (op==3)then
 bif (op==3)then
 some 1
else 
 bif (op==5)then
 bif (op==5)then
 some 2
else 
 some (-1)
else 
 bif (op==6)then
 bif (op==6)then
 some 2
else 
 some (-1)
else 
 bif (op==7)then
 bif (op==7)then
 some 2
else 
 some (-1)
else 
 bif (op==8)then
 some 2
else 
 some (-1)
else 
 bif (op==4)then
 some 1
else 
 bif (op==5)then
 bif (op==5)then
 some 2
else 
 some (-1)
else 
 bif (op==6)then
 bif (op==6)then
 some 2
else 
 some (-1)
else 
 bif (op==7)then
 bif (op==7)then
 some 2
else 
 some (-1)
else 
 bif (op==8)then
 some 2
else 
 some (-1)
else 
 bif (op==2)then
 some 0
else 
 bif (op==3)then
 bif (op==3)then
 some 1
else 
 bif (op==5)then
 bif (op==5)then
 some 2
else 
 some (-1)
else 
 bif (op==6)then
 bif (op==6)then
 some 2
else 
 some (-1)
else 
 bif (op==7)then
 bif (op==7)then
 some 2
else 
 some (-1)
else 
 bif (op==8)then
 some 2
else 
 some (-1)
else 
 bif (op==4)then
 some 1
else 
 bif (op==5)then
 bif (op==5)then
 some 2
else 
 some (-1)
else 
 bif (op==6)then
 bif (op==6)then
 some 2
else 
 some (-1)
else 
 bif (op==7)then
 bif (op==7)then
 some 2
else 
 some (-1)
else 
 bif (op==8)then
 some 2
else 
 some (-1):=tC
theorem F6xE(x):F6x x=
 bif (x.1==1)then
 bif x.2≥0 then
 some (decide (x.2<3))
else 
 some false
else 
 bif (x.1==2)then
 bif (x.2==0)then
 some true
else 
 some (x.2==1)
else 
(F5o x.1).bind fun r=>
 bif r>0 then
 some (x.2==0)
else 
 some false:=tC
theorem F9aE(values t15 t16 t17):F9a values t15 t16 t17=
 bif t17<t16 then
 bif 0≤t17 then
 bif t17<(t15.2.length:Int) then
(F5o ((t15.2.getD (toNat t17) (0,0)).1)).bind fun r=>
(F6x (t15.2.getD (toNat t17) (0,0))).bind fun r1=>
 bif !r1 then
 some (.inl false)
else 
 bif values<r then
 some (.inl false)
else 
(F9a (i64.wrap (values+(i64.wrap (1-r)))) t15 t16 (i64.wrap (t17+1))).bind fun r=>some r
else none
else none
else 
 some (.inr values):=tL F3rK
theorem F3rE(f):F3r f=
 bif (f.2.length:Int)<1 then
 some false
else 
 bif (f.2.length:Int)>16 then
 some false
else 
(F9a 0 f (f.2.length:Int) 0).bind fun r=>
 match r with
| .inl y=>
 some y
| .inr z=>
 some (z==1):=tC
theorem F51E(s):F51 s=
 bif s.1 then
 some (true,[])
else 
 bif ([]:List Int).length +s.2.length≤lim then
 some (false,([]++s.2))
else none:=tC
theorem Fa9E(out stack t10 t11 t12):Fa9 out stack t10 t11 t12=
 bif t12<t11 then
 bif 0≤t12 then
 bif t12<(t10.2.length:Int) then
(F5o ((t10.2.getD (toNat t12) (0,0)).1)).bind fun r=>
 bif 0≤i64.wrap ((stack.2.length:Int)-r) then
 bif i64.wrap ((stack.2.length:Int)-r)≤(stack.2.length:Int) then
(F51 (stack.1,((stack.2.take stack.2.length).drop (toNat (i64.wrap ((stack.2.length:Int)-r)))))).bind fun r1=>
 bif out.2.length+[(r1.1,r1.2)].length ≤lim then
 bif 0≤i64.wrap ((stack.2.length:Int)-r) then
 bif i64.wrap ((stack.2.length:Int)-r)≤(stack.2.length:Int) then
 bif ((stack.2.take (toNat (i64.wrap ((stack.2.length:Int)-r)))).drop 0).length +[t12].length ≤lim then
(Fa9 ((out.1&&false),(out.2++[(r1.1,r1.2)])) ((stack.1&&false),(((stack.2.take (toNat (i64.wrap ((stack.2.length:Int)-r)))).drop 0)++[t12])) t10 t11 (i64.wrap (t12+1))).bind fun r=>some r
else none
else none
else none
else none
else none
else none
else none
else none
else 
 some (out.1,out.2):=tL F2kK
theorem F2kE(f):F2k f=
(Fa9 (false,[]) (false,[]) f (f.2.length:Int) 0).bind fun r=>
 some (r.1,r.2):=tC
theorem F6bE(s):F6b s=
(J9x s).bind fun r=>some r:=tC
theorem F5vE(s):F5v s=
(J1z s).bind fun r=>some r:=tC
theorem F57E(out operands t13 t14 t15):F57 out operands t13 t14 t15=
 bif t15<t14 then
 bif 0≤t15 then
 bif t15<(t13.2.length:Int) then
 bif ((t13.2.getD (toNat t15) (0,0)).1==7)then
 bif ((t13.2.getD (toNat t15) (0,0)).1==7)then
 bif 0≤t15 then
 bif t15<(operands.2.length:Int) then
 bif 1<(((operands.2.getD (toNat t15) (true,[])).2).length :Int) then
 bif out.2.length+([t15,(((operands.2.getD (toNat t15) (true,[])).2).getD 1 0)]:List Int).length ≤lim then
(F57 ((out.1&&false),(out.2++[t15,(((operands.2.getD (toNat t15) (true,[])).2).getD 1 0)])) operands t13 t14 (i64.wrap (t15+1))).bind fun r=>some r
else none
else none
else none
else none
else 
 bif ((t13.2.getD (toNat t15) (0,0)).1==4)then
 bif 0≤t15 then
 bif t15<(operands.2.length:Int) then
 bif 0<(((operands.2.getD (toNat t15) (true,[])).2).length :Int) then
 bif out.2.length+([(((operands.2.getD (toNat t15) (true,[])).2).getD 0 0)]:List Int).length ≤lim then
(F57 ((out.1&&false),(out.2++[(((operands.2.getD (toNat t15) (true,[])).2).getD 0 0)])) operands t13 t14 (i64.wrap (t15+1))).bind fun r=>some r
else none
else none
else none
else none
else 
(F57 (out.1,out.2) operands t13 t14 (i64.wrap (t15+1))).bind fun r=>some r
else 
 bif ((t13.2.getD (toNat t15) (0,0)).1==8)then
 bif 0≤t15 then
 bif t15<(operands.2.length:Int) then
 bif 1<(((operands.2.getD (toNat t15) (true,[])).2).length :Int) then
 bif out.2.length+([t15,(((operands.2.getD (toNat t15) (true,[])).2).getD 1 0)]:List Int).length ≤lim then
(F57 ((out.1&&false),(out.2++[t15,(((operands.2.getD (toNat t15) (true,[])).2).getD 1 0)])) operands t13 t14 (i64.wrap (t15+1))).bind fun r=>some r
else none
else none
else none
else none
else 
 bif ((t13.2.getD (toNat t15) (0,0)).1==4)then
 bif 0≤t15 then
 bif t15<(operands.2.length:Int) then
 bif 0<(((operands.2.getD (toNat t15) (true,[])).2).length :Int) then
 bif out.2.length+([(((operands.2.getD (toNat t15) (true,[])).2).getD 0 0)]:List Int).length ≤lim then
(F57 ((out.1&&false),(out.2++[(((operands.2.getD (toNat t15) (true,[])).2).getD 0 0)])) operands t13 t14 (i64.wrap (t15+1))).bind fun r=>some r
else none
else none
else none
else none
else 
(F57 (out.1,out.2) operands t13 t14 (i64.wrap (t15+1))).bind fun r=>some r
else none
else none
else 
 some (out.1,out.2):=tL FyK
theorem FyE(f):Fy f=
(F2k f).bind fun r=>
(F57 (false,[i64.wrap ((f.2.length:Int)-1)]) (r.1,r.2) f (f.2.length:Int) 0).bind fun r1=>
(F6b (r1.1,r1.2)).bind fun r2=>
(F5v (r2.1,r2.2)).bind fun r3=>
 some (r3.1,r3.2):=tC
theorem F89E(f):F89 f=
(F3r f).bind fun r=>
 bif r then
(Fy f).bind fun r1=>
 some (decide ((r1.2.length:Int)≤5))
else 
 some false:=tC
theorem F8bE(t a1):F8b t a1=
(F5b a1.1 t).bind fun r=>
 some (!r):=tC
theorem FblE(s f t7 t8):Fbl s f t7 t8=
 bif t8<t7 then
 bif 0≤t8 then
 bif t8<(s.2.length:Int) then
(F8b (s.2.getD (toNat t8) (true,[])) f.1).bind fun r=>
 bif r then
 some (.inl t8)
else 
(Fbl s f t7 (i64.wrap (t8+1))).bind fun r=>some r
else none
else none
else 
 some (.inr ()):=tL F3nK
theorem F3nE(s f):F3n s f=
(Fbl s f (s.2.length:Int) 0).bind fun r=>
 match r with
| .inl y=>
 some y
| .inr z=>
 some (-1):=tC
theorem F7kE(s f):F7k s f=
(F3n s f).bind fun r=>
 some (decide (r≥0)):=tC
theorem F53E(q):F53 q=
(F5q q.1).bind fun r=>
 bif !r then
 some false
else 
 bif ((q.2.1.2.length:Int) !=3)then
 some false
else 
(F89 q.2.2).bind fun r1=>
 bif !r1 then
 some false
else 
(F7k q.2.1 (q,())).bind fun r2=>
 some (!r2):=tC
theorem F8jE(t a1):F8j t a1=
(F5b a1 t).bind fun r=>
 some (!r):=tC
theorem FadE(s f t7 t8):Fad s f t7 t8=
 bif t8<t7 then
 bif 0≤t8 then
 bif t8<(s.2.length:Int) then
(F8j (s.2.getD (toNat t8) (true,[])) f.1).bind fun r=>
 bif r then
 some (.inl t8)
else 
(Fad s f t7 (i64.wrap (t8+1))).bind fun r=>some r
else none
else none
else 
 some (.inr ()):=tL F4oK
theorem F4oE(s f):F4o s f=
(Fad s f (s.2.length:Int) 0).bind fun r=>
 match r with
| .inl y=>
 some y
| .inr z=>
 some (-1):=tC
theorem F7mE(s f):F7m s f=
(F4o s f).bind fun r=>
 some (decide (r≥0)):=tC
theorem F4tE(p preds least):F4t p preds least=
 bif (preds.2.length:Int)≥least then
 bif (preds.2.length:Int)≤8 then
(F7m preds (p,())).bind fun r=>
 some (!r)
else 
 some false
else 
 some false:=tC
theorem F6qE(n):F6q n=
 bif n≥0 then
 some (decide (n≤40))
else 
 some false:=tC
theorem F7jE(n):F7j n=
 bif n<0 then
 none
else 
 bif i64.wrap (n-(i64.wrap (0-0)))>0 then
 bif 0≤i64.wrap (n-(i64.wrap (0-0))) then
 bif i64.wrap (n-(i64.wrap (0-0)))≤lim then
 bif ([]:List (Bool×List DNode)).length +((List.replicate (toNat (i64.wrap (n-(i64.wrap (0-0))))) ((true,[]):Bool×List DNode)):List (Bool×List DNode)).length ≤lim then
 bif 0≤(([]++(List.replicate (toNat (i64.wrap (n-(i64.wrap (0-0))))) ((true,[]):Bool×List DNode))).length :Int) then
 some ((List.replicate (toNat (i64.wrap (n-(i64.wrap (0-0))))) ((true,[]):Bool×List DNode)).isEmpty,((([]++(List.replicate (toNat (i64.wrap (n-(i64.wrap (0-0))))) ((true,[]):Bool×List DNode))).take 0).drop 0))
else none
else none
else none
else none
else 
 some (true,[]):=tC
theorem F9yE(slices size_ t9 t10 t11):F9y slices size_ t9 t10 t11=
 bif t11<t10 then
 bif 0≤t11 then
 bif t11<(t9.2.length:Int) then
 bif i64.wrap (size_+(((t9.2.getD (toNat t11) (true,[])).2).length :Int))<0 then
 none
else 
(F9y slices (i64.wrap (size_+(((t9.2.getD (toNat t11) (true,[])).2).length :Int))) t9 t10 (i64.wrap (t11+1))).bind fun r=>some r
else none
else none
else 
 some size_:=tL F1vK
theorem F9gE(newslice t25 t26 t27):F9g newslice t25 t26 t27=
 bif t27<t26 then
 bif 0≤t27 then
 bif t27<(t25.2.length:Int) then
 bif newslice.2.length+((t25.2.getD (toNat t27) (true,[])).2 :List (Bool×List DNode)).length ≤lim then
(F9g ((newslice.1&&((t25.2.getD (toNat t27) (true,[])).2).isEmpty),(newslice.2++((t25.2.getD (toNat t27) (true,[])).2))) t25 t26 (i64.wrap (t27+1))).bind fun r=>some r
else none
else none
else none
else 
 some (newslice.1,newslice.2):=tL F1vK
theorem F1vE(slices):F1v slices=
(F9y slices 0 slices (slices.2.length:Int) 0).bind fun r=>
(F7j r).bind fun r1=>
(F9g (r1.1,r1.2) slices (slices.2.length:Int) 0).bind fun r2=>
 some (r2.1,r2.2):=tC
theorem F52E(p):F52 p=
 bif i64.wrap (p.1*p.2.1)<0 then
 none
else 
 some (bShl .i64 1 (i64.wrap (p.1*p.2.1))):=tC
theorem F9rE(no p out t9 t10):F9r no p out t9 t10=
 bif t10<t9 then
 bif i64.wrap (p.1*t10)<0 then
 none
else 
(F0 p.1).bind fun r=>
 bif out.2.length+[bAnd .u64 (bShr .u64 (u64.wrap no) (i64.wrap (p.1*t10))) r].length ≤lim then
(F9r no p ((out.1&&false),(out.2++[bAnd .u64 (bShr .u64 (u64.wrap no) (i64.wrap (p.1*t10))) r])) t9 (i64.wrap (t10+1))).bind fun r=>some r
else none
else 
 some (out.1,out.2):=tL F22K
theorem F22E(p no):F22 p no=
(F9r no p (false,[]) p.2.1 0).bind fun r=>
 some (r.1,r.2):=tC
theorem F70E(wide a b):F70 wide a b=
(F5p wide a).bind fun r=>
 bif r then
(F5p wide b).bind fun r1=>
 some r1
else 
 some false:=tC
theorem F88E(hi lo y):F88 hi lo y=
 bif (y==0)then
 none
else 
 bif y≤hi then
 none
else 
 bif (hi==0)then
 bif (y==0)then
 none
else 
 bif (y==0)then
 none
else 
 some (u64.wrap (Int.tdiv lo y),Int.tmod lo y)
else none:=tC
theorem F66E(wide a b):F66 wide a b=
(F70 wide a b).bind fun r=>
 bif !r then
 some (0,(0,false))
else 
 bif (b==0)then
(F0 wide).bind fun r1=>
 some (r1,(a,true))
else 
(F88 0 a b).bind fun r2=>
 some (r2.1,(r2.2,true)):=tC
theorem F4wE(wide a by_ left_):F4w wide a by_ left_=
 bif by_≥u64.wrap wide then
 some 0
else 
 bif left_ then
 bif by_<0 then
 none
else 
(F0 wide).bind fun r=>
 some (bAnd .u64 (bShl .u64 a by_) r)
else 
 bif by_<0 then
 none
else 
 some (bShr .u64 a by_):=tC
theorem FpE(holds):Fp holds=
 bif holds then
 some 1
else 
 some 0:=tC
theorem F1fE(wide a):F1f wide a=
 bif i64.wrap (64-wide)<0 then
 none
else 
 bif i64.wrap (64-wide)<0 then
 none
else 
 some (bShr .i64 (i64.wrap (bShl .u64 a (i64.wrap (64-wide)))) (i64.wrap (64-wide))):=tC
theorem F5tE(wide op a b):F5t wide op a b=
 bif (op==3)then
(F0 wide).bind fun r=>
 some (bAnd .u64 (u64.wrap (a+b)) r)
else 
 bif (op==4)then
(F0 wide).bind fun r1=>
 some (bAnd .u64 (u64.wrap (a-b)) r1)
else 
 bif (op==5)then
(F0 wide).bind fun r2=>
 some (bAnd .u64 (u64.wrap (a*b)) r2)
else 
 bif (op==6)then
(F66 wide a b).bind fun r3=>
(F0 wide).bind fun r4=>
 some (bAnd .u64 r3.1 r4)
else 
 bif (op==7)then
(F66 wide a b).bind fun r5=>
(F0 wide).bind fun r6=>
 some (bAnd .u64 r5.2.1 r6)
else 
 bif (op==8)then
 bif (op==8)then
(F0 wide).bind fun r7=>
 some (bAnd .u64 (bAnd .u64 a b) r7)
else 
 bif (op==9)then
 bif (op==9)then
(F0 wide).bind fun r8=>
 some (bAnd .u64 (bOr .u64 a b) r8)
else 
 bif (op==10)then
(F0 wide).bind fun r9=>
 some (bAnd .u64 (bXor .u64 a b) r9)
else 
 bif (op==11)then
 bif (op==11)then
(F4w wide a b (op==11)).bind fun r10=>
(F0 wide).bind fun r11=>
 some (bAnd .u64 r10 r11)
else 
 bif (op==14)then
(Fp (a==b)).bind fun r12=>
(F0 wide).bind fun r13=>
 some (bAnd .u64 r12 r13)
else 
 bif (op==15)then
(Fp (decide (a<b))).bind fun r14=>
(F0 wide).bind fun r15=>
 some (bAnd .u64 r14 r15)
else 
 bif (op==16)then
(F1f wide a).bind fun r16=>
(F1f wide b).bind fun r17=>
(Fp (decide (r16<r17))).bind fun r18=>
(F0 wide).bind fun r19=>
 some (bAnd .u64 r18 r19)
else 
(F0 wide).bind fun r20=>
 some (bAnd .u64 0 r20)
else 
 bif (op==12)then
(F4w wide a b (op==11)).bind fun r21=>
(F0 wide).bind fun r22=>
 some (bAnd .u64 r21 r22)
else 
 bif (op==14)then
(Fp (a==b)).bind fun r23=>
(F0 wide).bind fun r24=>
 some (bAnd .u64 r23 r24)
else 
 bif (op==15)then
(Fp (decide (a<b))).bind fun r25=>
(F0 wide).bind fun r26=>
 some (bAnd .u64 r25 r26)
else 
 bif (op==16)then
(F1f wide a).bind fun r27=>
(F1f wide b).bind fun r28=>
(Fp (decide (r27<r28))).bind fun r29=>
(F0 wide).bind fun r30=>
 some (bAnd .u64 r29 r30)
else 
(F0 wide).bind fun r31=>
 some (bAnd .u64 0 r31)
else 
 bif (op==18)then
(F0 wide).bind fun r32=>
 some (bAnd .u64 (bOr .u64 a b) r32)
else 
 bif (op==10)then
(F0 wide).bind fun r33=>
 some (bAnd .u64 (bXor .u64 a b) r33)
else 
 bif (op==11)then
 bif (op==11)then
(F4w wide a b (op==11)).bind fun r34=>
(F0 wide).bind fun r35=>
 some (bAnd .u64 r34 r35)
else 
 bif (op==14)then
(Fp (a==b)).bind fun r36=>
(F0 wide).bind fun r37=>
 some (bAnd .u64 r36 r37)
else 
 bif (op==15)then
(Fp (decide (a<b))).bind fun r38=>
(F0 wide).bind fun r39=>
 some (bAnd .u64 r38 r39)
else 
 bif (op==16)then
(F1f wide a).bind fun r40=>
(F1f wide b).bind fun r41=>
(Fp (decide (r40<r41))).bind fun r42=>
(F0 wide).bind fun r43=>
 some (bAnd .u64 r42 r43)
else 
(F0 wide).bind fun r44=>
 some (bAnd .u64 0 r44)
else 
 bif (op==12)then
(F4w wide a b (op==11)).bind fun r45=>
(F0 wide).bind fun r46=>
 some (bAnd .u64 r45 r46)
else 
 bif (op==14)then
(Fp (a==b)).bind fun r47=>
(F0 wide).bind fun r48=>
 some (bAnd .u64 r47 r48)
else 
 bif (op==15)then
(Fp (decide (a<b))).bind fun r49=>
(F0 wide).bind fun r50=>
 some (bAnd .u64 r49 r50)
else 
 bif (op==16)then
(F1f wide a).bind fun r51=>
(F1f wide b).bind fun r52=>
(Fp (decide (r51<r52))).bind fun r53=>
(F0 wide).bind fun r54=>
 some (bAnd .u64 r53 r54)
else 
(F0 wide).bind fun r55=>
 some (bAnd .u64 0 r55)
else 
 bif (op==17)then
(F0 wide).bind fun r56=>
 some (bAnd .u64 (bAnd .u64 a b) r56)
else 
 bif (op==9)then
 bif (op==9)then
(F0 wide).bind fun r57=>
 some (bAnd .u64 (bOr .u64 a b) r57)
else 
 bif (op==10)then
(F0 wide).bind fun r58=>
 some (bAnd .u64 (bXor .u64 a b) r58)
else 
 bif (op==11)then
 bif (op==11)then
(F4w wide a b (op==11)).bind fun r59=>
(F0 wide).bind fun r60=>
 some (bAnd .u64 r59 r60)
else 
 bif (op==14)then
(Fp (a==b)).bind fun r61=>
(F0 wide).bind fun r62=>
 some (bAnd .u64 r61 r62)
else 
 bif (op==15)then
(Fp (decide (a<b))).bind fun r63=>
(F0 wide).bind fun r64=>
 some (bAnd .u64 r63 r64)
else 
 bif (op==16)then
(F1f wide a).bind fun r65=>
(F1f wide b).bind fun r66=>
(Fp (decide (r65<r66))).bind fun r67=>
(F0 wide).bind fun r68=>
 some (bAnd .u64 r67 r68)
else 
(F0 wide).bind fun r69=>
 some (bAnd .u64 0 r69)
else 
 bif (op==12)then
(F4w wide a b (op==11)).bind fun r70=>
(F0 wide).bind fun r71=>
 some (bAnd .u64 r70 r71)
else 
 bif (op==14)then
(Fp (a==b)).bind fun r72=>
(F0 wide).bind fun r73=>
 some (bAnd .u64 r72 r73)
else 
 bif (op==15)then
(Fp (decide (a<b))).bind fun r74=>
(F0 wide).bind fun r75=>
 some (bAnd .u64 r74 r75)
else 
 bif (op==16)then
(F1f wide a).bind fun r76=>
(F1f wide b).bind fun r77=>
(Fp (decide (r76<r77))).bind fun r78=>
(F0 wide).bind fun r79=>
 some (bAnd .u64 r78 r79)
else 
(F0 wide).bind fun r80=>
 some (bAnd .u64 0 r80)
else 
 bif (op==18)then
(F0 wide).bind fun r81=>
 some (bAnd .u64 (bOr .u64 a b) r81)
else 
 bif (op==10)then
(F0 wide).bind fun r82=>
 some (bAnd .u64 (bXor .u64 a b) r82)
else 
 bif (op==11)then
 bif (op==11)then
(F4w wide a b (op==11)).bind fun r83=>
(F0 wide).bind fun r84=>
 some (bAnd .u64 r83 r84)
else 
 bif (op==14)then
(Fp (a==b)).bind fun r85=>
(F0 wide).bind fun r86=>
 some (bAnd .u64 r85 r86)
else 
 bif (op==15)then
(Fp (decide (a<b))).bind fun r87=>
(F0 wide).bind fun r88=>
 some (bAnd .u64 r87 r88)
else 
 bif (op==16)then
(F1f wide a).bind fun r89=>
(F1f wide b).bind fun r90=>
(Fp (decide (r89<r90))).bind fun r91=>
(F0 wide).bind fun r92=>
 some (bAnd .u64 r91 r92)
else 
(F0 wide).bind fun r93=>
 some (bAnd .u64 0 r93)
else 
 bif (op==12)then
(F4w wide a b (op==11)).bind fun r94=>
(F0 wide).bind fun r95=>
 some (bAnd .u64 r94 r95)
else 
 bif (op==14)then
(Fp (a==b)).bind fun r96=>
(F0 wide).bind fun r97=>
 some (bAnd .u64 r96 r97)
else 
 bif (op==15)then
(Fp (decide (a<b))).bind fun r98=>
(F0 wide).bind fun r99=>
 some (bAnd .u64 r98 r99)
else 
 bif (op==16)then
(F1f wide a).bind fun r100=>
(F1f wide b).bind fun r101=>
(Fp (decide (r100<r101))).bind fun r102=>
(F0 wide).bind fun r103=>
 some (bAnd .u64 r102 r103)
else 
(F0 wide).bind fun r104=>
 some (bAnd .u64 0 r104):=tC
theorem F3iE(wide state stack t12 t13 t14):F3i wide state stack t12 t13 t14=
 bif t14<t13 then
 bif 0≤t14 then
 bif t14<(t12.2.length:Int) then
 bif ((t12.2.getD (toNat t14) (0,0)).1==1)then
 bif ((t12.2.getD (toNat t14) (0,0)).1==1)then
 bif stack.2.length+[(t12.2.getD (toNat t14) (0,0)).2].length ≤lim then
(F3i wide state ((stack.1&&false),(stack.2++[(t12.2.getD (toNat t14) (0,0)).2])) t12 t13 (i64.wrap (t14+1))).bind fun r=>some r
else none
else 
 bif ((t12.2.getD (toNat t14) (0,0)).1==2)then
 bif 0≤(t12.2.getD (toNat t14) (0,0)).2 then
 bif (t12.2.getD (toNat t14) (0,0)).2<(state.2.length:Int) then
 bif stack.2.length+[(state.2.getD (toNat ((t12.2.getD (toNat t14) (0,0)).2)) 0)].length ≤lim then
(F3i wide state ((stack.1&&false),(stack.2++[(state.2.getD (toNat ((t12.2.getD (toNat t14) (0,0)).2)) 0)])) t12 t13 (i64.wrap (t14+1))).bind fun r=>some r
else none
else none
else none
else 
 bif ((t12.2.getD (toNat t14) (0,0)).1==13)then
 bif 0≤i64.wrap ((stack.2.length:Int)-1) then
 bif i64.wrap ((stack.2.length:Int)-1)<(stack.2.length:Int) then
(F0 wide).bind fun r=>
 bif 0≤i64.wrap ((stack.2.length:Int)-1) then
 bif i64.wrap ((stack.2.length:Int)-1)<(stack.2.length:Int) then
(F3i wide state (stack.1,(stack.2.set (toNat (i64.wrap ((stack.2.length:Int)-1))) (bAnd .u64 (bXor .u64 18446744073709551615 (stack.2.getD (toNat (i64.wrap ((stack.2.length:Int)-1))) 0)) r))) t12 t13 (i64.wrap (t14+1))).bind fun r=>some r
else none
else none
else none
else none
else 
 bif ((t12.2.getD (toNat t14) (0,0)).1==19)then
 bif 0≤i64.wrap ((stack.2.length:Int)-1) then
 bif i64.wrap ((stack.2.length:Int)-1)<(stack.2.length:Int) then
 bif 0≤i64.wrap ((stack.2.length:Int)-1) then
 bif i64.wrap ((stack.2.length:Int)-1)<(stack.2.length:Int) then
(F3i wide state (stack.1,(stack.2.set (toNat (i64.wrap ((stack.2.length:Int)-1))) (u64.wrap (1-(stack.2.getD (toNat (i64.wrap ((stack.2.length:Int)-1))) 0))))) t12 t13 (i64.wrap (t14+1))).bind fun r=>some r
else none
else none
else none
else none
else 
 bif 0≤i64.wrap ((i64.wrap ((stack.2.length:Int)-1))-1) then
 bif i64.wrap ((i64.wrap ((stack.2.length:Int)-1))-1)≤(stack.2.length:Int) then
 bif 0≤i64.wrap ((i64.wrap ((stack.2.length:Int)-1))-1) then
 bif i64.wrap ((i64.wrap ((stack.2.length:Int)-1))-1)<(stack.2.length:Int) then
 bif 0≤i64.wrap ((stack.2.length:Int)-1) then
 bif i64.wrap ((stack.2.length:Int)-1)<(stack.2.length:Int) then
(F5t wide ((t12.2.getD (toNat t14) (0,0)).1) (stack.2.getD (toNat (i64.wrap ((i64.wrap ((stack.2.length:Int)-1))-1))) 0) (stack.2.getD (toNat (i64.wrap ((stack.2.length:Int)-1))) 0)).bind fun r1=>
 bif ((stack.2.take (toNat (i64.wrap ((i64.wrap ((stack.2.length:Int)-1))-1)))).drop 0).length +[r1].length ≤lim then
(F3i wide state ((stack.1&&false),(((stack.2.take (toNat (i64.wrap ((i64.wrap ((stack.2.length:Int)-1))-1)))).drop 0)++[r1])) t12 t13 (i64.wrap (t14+1))).bind fun r=>some r
else none
else none
else none
else none
else none
else none
else none
else 
 bif ((t12.2.getD (toNat t14) (0,0)).1==20)then
 bif stack.2.length+[(t12.2.getD (toNat t14) (0,0)).2].length ≤lim then
(F3i wide state ((stack.1&&false),(stack.2++[(t12.2.getD (toNat t14) (0,0)).2])) t12 t13 (i64.wrap (t14+1))).bind fun r=>some r
else none
else 
 bif ((t12.2.getD (toNat t14) (0,0)).1==2)then
 bif 0≤(t12.2.getD (toNat t14) (0,0)).2 then
 bif (t12.2.getD (toNat t14) (0,0)).2<(state.2.length:Int) then
 bif stack.2.length+[(state.2.getD (toNat ((t12.2.getD (toNat t14) (0,0)).2)) 0)].length ≤lim then
(F3i wide state ((stack.1&&false),(stack.2++[(state.2.getD (toNat ((t12.2.getD (toNat t14) (0,0)).2)) 0)])) t12 t13 (i64.wrap (t14+1))).bind fun r=>some r
else none
else none
else none
else 
 bif ((t12.2.getD (toNat t14) (0,0)).1==13)then
 bif 0≤i64.wrap ((stack.2.length:Int)-1) then
 bif i64.wrap ((stack.2.length:Int)-1)<(stack.2.length:Int) then
(F0 wide).bind fun r2=>
 bif 0≤i64.wrap ((stack.2.length:Int)-1) then
 bif i64.wrap ((stack.2.length:Int)-1)<(stack.2.length:Int) then
(F3i wide state (stack.1,(stack.2.set (toNat (i64.wrap ((stack.2.length:Int)-1))) (bAnd .u64 (bXor .u64 18446744073709551615 (stack.2.getD (toNat (i64.wrap ((stack.2.length:Int)-1))) 0)) r2))) t12 t13 (i64.wrap (t14+1))).bind fun r=>some r
else none
else none
else none
else none
else 
 bif ((t12.2.getD (toNat t14) (0,0)).1==19)then
 bif 0≤i64.wrap ((stack.2.length:Int)-1) then
 bif i64.wrap ((stack.2.length:Int)-1)<(stack.2.length:Int) then
 bif 0≤i64.wrap ((stack.2.length:Int)-1) then
 bif i64.wrap ((stack.2.length:Int)-1)<(stack.2.length:Int) then
(F3i wide state (stack.1,(stack.2.set (toNat (i64.wrap ((stack.2.length:Int)-1))) (u64.wrap (1-(stack.2.getD (toNat (i64.wrap ((stack.2.length:Int)-1))) 0))))) t12 t13 (i64.wrap (t14+1))).bind fun r=>some r
else none
else none
else none
else none
else 
 bif 0≤i64.wrap ((i64.wrap ((stack.2.length:Int)-1))-1) then
 bif i64.wrap ((i64.wrap ((stack.2.length:Int)-1))-1)≤(stack.2.length:Int) then
 bif 0≤i64.wrap ((i64.wrap ((stack.2.length:Int)-1))-1) then
 bif i64.wrap ((i64.wrap ((stack.2.length:Int)-1))-1)<(stack.2.length:Int) then
 bif 0≤i64.wrap ((stack.2.length:Int)-1) then
 bif i64.wrap ((stack.2.length:Int)-1)<(stack.2.length:Int) then
(F5t wide ((t12.2.getD (toNat t14) (0,0)).1) (stack.2.getD (toNat (i64.wrap ((i64.wrap ((stack.2.length:Int)-1))-1))) 0) (stack.2.getD (toNat (i64.wrap ((stack.2.length:Int)-1))) 0)).bind fun r3=>
 bif ((stack.2.take (toNat (i64.wrap ((i64.wrap ((stack.2.length:Int)-1))-1)))).drop 0).length +[r3].length ≤lim then
(F3i wide state ((stack.1&&false),(((stack.2.take (toNat (i64.wrap ((i64.wrap ((stack.2.length:Int)-1))-1)))).drop 0)++[r3])) t12 t13 (i64.wrap (t14+1))).bind fun r=>some r
else none
else none
else none
else none
else none
else none
else none
else none
else none
else 
 some (stack.1,stack.2):=tL FxK
theorem FxE(wide t state):Fx wide t state=
(F3i wide state (false,[]) t (t.2.length:Int) 0).bind fun r=>
 bif 0<(r.2.length:Int) then
 some (r.2.getD 0 0)
else none:=tC
theorem F71E(t2 known v t11 t12 t13):F71 t2 known v t11 t12 t13=
 bif t13<t12 then
 bif 0≤t13 then
 bif t13<(t11.2.length:Int) then
 bif !((Jj tySaid (.int .i64) known.2 (t11.2.getD (toNat t13) (0,0))).isSome)then
 bif known.2.length≤lim then
 bif v.2.length+[(known.2.length:Int)].length ≤lim then
(F71 t2 (false,(J2a tySaid (.int .i64) known.2 (t11.2.getD (toNat t13) (0,0)) (known.2.length:Int))) ((v.1&&false),(v.2++[(known.2.length:Int)])) t11 t12 (i64.wrap (t13+1))).bind fun r=>some r
else none
else none
else 
 bif v.2.length+[((Jj tySaid (.int .i64) known.2 (t11.2.getD (toNat t13) (0,0))).getD 0)].length ≤lim then
(F71 t2 (false,known.2) ((v.1&&false),(v.2++[((Jj tySaid (.int .i64) known.2 (t11.2.getD (toNat t13) (0,0))).getD 0)])) t11 t12 (i64.wrap (t13+1))).bind fun r=>some r
else none
else none
else none
else 
 some ((false,known.2),(v.1,v.2)):=tL F2dK
theorem F2dE(keys):F2d keys=
(F71 (true,[]) (false,[]) (true,[]) keys (keys.2.length:Int) 0).bind fun r=>
 some (r.2.1,r.2.2):=tC
theorem FcnE(preds p t4 keys t25 t26):Fcn preds p t4 keys t25 t26=
 bif t26<t25 then
(F22 p t26).bind fun r=>
(F9x preds p t4 (keys.1,keys.2) t26 (r.1,r.2) t25 t26 preds (preds.2.length:Int) 0).bind fun r1=>
(Fcn preds p t4 (r1.1,r1.2) t25 (i64.wrap (t26+1))).bind fun r=>some r
else 
 some (keys.1,keys.2):=tL F1tK
theorem F9xE(preds p t4 keys no s t25 t26 t32 t33 t34):F9x preds p t4 keys no s t25 t26 t32 t33 t34=
 bif t34<t33 then
 bif 0≤t34 then
 bif t34<(t32.2.length:Int) then
 bif 0≤no then
 bif no<(keys.2.length:Int) then
(Fx p.1 (t32.2.getD (toNat t34) (true,[])) s).bind fun r=>
 bif t34<0 then
 none
else 
 bif 0≤no then
 bif no<(keys.2.length:Int) then
(F9x preds p t4 (keys.1,(keys.2.set (toNat no) (bOr .i64 ((keys.2.getD (toNat no) (0,0)).1) (bShl .i64 (i64.wrap r) t34),(keys.2.getD (toNat no) (0,0)).2))) no s t25 t26 t32 t33 (i64.wrap (t34+1))).bind fun r=>some r
else none
else none
else none
else none
else none
else none
else 
 some (keys.1,keys.2):=tL F1tK
theorem F1tE(p preds):F1t p preds=
(F5q p).bind fun r=>
 bif !r then
 some ((true,[]),false)
else 
(F4t p preds 0).bind fun r1=>
 bif !r1 then
 some ((true,[]),false)
else 
(F52 p).bind fun r2=>
 bif 0≤r2 then
 bif r2≤lim then
 bif r2≤r2 then
 bif r2≤lim then
(Fcn preds p (true,[]) (false,(List.replicate (toNat r2) ((0,0):DSaid))) ((List.replicate (toNat r2) ((0,0):DSaid)).length :Int) 0).bind fun r3=>
(F2d (r3.1,r3.2)).bind fun r4=>
 some ((r4.1,r4.2),true)
else none
else none
else none
else none:=tC
theorem F7yE(states v classes t9 t10 t11):F7y states v classes t9 t10 t11=
 bif t11<t10 then
 bif 0≤t11 then
 bif t11<(t9.2.length:Int) then
 bif t9.2.getD (toNat t11) 0<0 then
 some (.inl false)
else 
 bif t9.2.getD (toNat t11) 0>classes then
 some (.inl false)
else 
 bif (t9.2.getD (toNat t11) 0==classes)then
(F7y states v (i64.wrap (classes+1)) t9 t10 (i64.wrap (t11+1))).bind fun r=>some r
else 
(F7y states v classes t9 t10 (i64.wrap (t11+1))).bind fun r=>some r
else none
else none
else 
 some (.inr ()):=tL F30K
theorem F30E(v states):F30 v states=
(F7y states v 0 v (v.2.length:Int) 0).bind fun r=>
 match r with
| .inl y=>
 some y
| .inr z=>
 some ((v.2.length:Int)==states):=tC
theorem F7qE(p v):F7q p v=
(F5q p).bind fun r=>
 bif r then
(F52 p).bind fun r1=>
(F30 v r1).bind fun r2=>
 some r2
else 
 some false:=tC
theorem FakE(b t4 keys t10 t11 t12):Fak b t4 keys t10 t11 t12=
 bif t12<t11 then
 bif 0≤t12 then
 bif t12<(t10.2.length:Int) then
 bif 0≤t12 then
 bif t12<(b.2.length:Int) then
 bif keys.2.length+[(t10.2.getD (toNat t12) 0,b.2.getD (toNat t12) 0)].length ≤lim then
(Fak b t4 ((keys.1&&false),(keys.2++[((t10.2.getD (toNat t12) 0),(b.2.getD (toNat t12) 0))])) t10 t11 (i64.wrap (t12+1))).bind fun r=>some r
else none
else none
else none
else none
else none
else 
 some (keys.1,keys.2):=tL F3hK
theorem F3hE(a b):F3h a b=
(Fak b (true,[]) (false,[]) a (a.2.length:Int) 0).bind fun r=>
(F2d (r.1,r.2)).bind fun r1=>
 some (r1.1,r1.2):=tC
theorem F85E(p v t):F85 p v t=
(F1t p (false,[t])).bind fun r=>
 bif !r.2 then
 some ((true,[]),false)
else 
(F7q p v).bind fun r1=>
 bif !r1 then
 some ((true,[]),false)
else 
(F3h v (r.1.1,r.1.2)).bind fun r2=>
 some ((r2.1,r2.2),true):=tC
theorem FcfE(p t4 v t12 t13 t14):Fcf p t4 v t12 t13 t14=
 bif t14<t13 then
 bif 0≤t14 then
 bif t14<(t12.2.length:Int) then
(F85 p (v.1,v.2) (t12.2.getD (toNat t14) (true,[]))).bind fun r=>
(Fcf p t4 (r.1.1,r.1.2) t12 t13 (i64.wrap (t14+1))).bind fun r=>some r
else none
else none
else 
 some (v.1,v.2):=tL F4hK
theorem F4hE(p preds):F4h p preds=
(F52 p).bind fun r=>
 bif 0≤r then
 bif r≤lim then
 bif r≤r then
 bif r≤lim then
(Fcf p (true,[]) (false,(List.replicate (toNat r) (0:Int))) preds (preds.2.length:Int) 0).bind fun r1=>
 some (r1.1,r1.2)
else none
else none
else none
else none:=tC
theorem FcaE(x m i):Fca x m i=
 bif i<(x.2.length:Int) then
 bif 0≤i then
 bif i<(x.2.length:Int) then
(Fca x (bif m<(x.2.getD (toNat i) 0) then(x.2.getD (toNat i) 0)else m) (i64.wrap (i+1))).bind fun r=>some r
else none
else none
else 
 some m:=tL F42K
theorem F42E(x):F42 x=
 bif (x.2.length:Int)<1 then
 none
else 
 bif 0<(x.2.length:Int) then
(Fca x (x.2.getD 0 0) 1).bind fun r=>
 some r
else none:=tC
theorem F15E(v):F15 v=
(F42 v).bind fun r=>
 some (i64.wrap (r+1)):=tC
theorem F9E(f):F9 f=
(Fy f).bind fun r=>
 bif (r.2.length:Int)<0 then
 none
else 
 some (bShl .i64 1 (r.2.length:Int)):=tC
theorem F9tE(s v t7 t8):F9t s v t7 t8=
 bif t8<t7 then
 bif 0≤t8 then
 bif t8<(s.2.length:Int) then
 bif (v==s.2.getD (toNat t8) 0)then
 some (.inl t8)
else 
(F9t s v t7 (i64.wrap (t8+1))).bind fun r=>some r
else none
else none
else 
 some (.inr ()):=tL F25K
theorem F25E(s v):F25 s v=
(F9t s v (s.2.length:Int) 0).bind fun r=>
 match r with
| .inl y=>
 some y
| .inr z=>
 some (-1):=tC
theorem F5fE(p t s):F5f p t s=
(Fx p.1 t s).bind fun r=>
 some (r==1):=tC
theorem F8tE(q s letter t14 t15 t16):F8t q s letter t14 t15 t16=
 bif t16<t15 then
 bif 0≤t16 then
 bif t16<(t14.2.length:Int) then
(F5f q.1 (t14.2.getD (toNat t16) (true,[])) s).bind fun r=>
 bif r then
 bif t16<0 then
 none
else 
(F8t q s (bOr .i64 letter (bShl .i64 1 t16)) t14 t15 (i64.wrap (t16+1))).bind fun r=>some r
else 
(F8t q s letter t14 t15 (i64.wrap (t16+1))).bind fun r=>some r
else none
else none
else 
 some letter:=tL F36K
theorem F36E(q no):F36 q no=
(F22 q.1 no).bind fun r=>
(F8t q (r.1,r.2) 0 q.2.1 (q.2.1.2.length:Int) 0).bind fun r1=>
 some r1:=tC
theorem F6lE(q v class_):F6l q v class_=
(F25 v class_).bind fun r=>
(F36 q r).bind fun r1=>
 some r1:=tC
theorem F8hE(class_ out t10 t11 t12):F8h class_ out t10 t11 t12=
 bif t12<t11 then
 bif 0≤t12 then
 bif t12<(t10.2.length:Int) then
 bif (t10.2.getD (toNat t12) 0==class_)then
 bif out.2.length+[t12].length ≤lim then
(F8h class_ ((out.1&&false),(out.2++[t12])) t10 t11 (i64.wrap (t12+1))).bind fun r=>some r
else none
else 
(F8h class_ (out.1,out.2) t10 t11 (i64.wrap (t12+1))).bind fun r=>some r
else none
else none
else 
 some (out.1,out.2):=tL F3bK
theorem F3bE(v class_):F3b v class_=
(F8h class_ (false,[]) v (v.2.length:Int) 0).bind fun r=>
 some (r.1,r.2):=tC
theorem F8rE(s):F8r s=
 bif s.1 then
 some (true,[])
else 
 bif ([]:List Int).length +s.2.length≤lim then
 some (false,([]++s.2))
else none:=tC
theorem FbmE(s p out t13 t14 t15):Fbm s p out t13 t14 t15=
 bif t15<t14 then
 bif 0≤t15 then
 bif t15<(t13.2.length:Int) then
(Fx p.1 ((t13.2.getD (toNat t15) (0,(true,[]))).2) s).bind fun r=>
 bif 0≤(t13.2.getD (toNat t15) (0,(true,[]))).1 then
 bif (t13.2.getD (toNat t15) (0,(true,[]))).1<(out.2.length:Int) then
(Fbm s p (out.1,(out.2.set (toNat ((t13.2.getD (toNat t15) (0,(true,[]))).1)) r)) t13 t14 (i64.wrap (t15+1))).bind fun r=>some r
else none
else none
else none
else none
else 
 some (out.1,out.2):=tL F3lK
theorem F3lE(p c s):F3l p c s=
(F8r s).bind fun r=>
(Fbm s p (r.1,r.2) c.2 (c.2.2.length:Int) 0).bind fun r1=>
 some (r1.1,r1.2):=tC
theorem FboE(p no t8 t9 t10):Fbo p no t8 t9 t10=
 bif t10<t9 then
 bif 0≤t10 then
 bif t10<(t8.2.length:Int) then
 bif i64.wrap (p.1*t10)<0 then
 none
else 
(Fbo p (bOr .i64 no (bShl .i64 (i64.wrap (t8.2.getD (toNat t10) 0)) (i64.wrap (p.1*t10)))) t8 t9 (i64.wrap (t10+1))).bind fun r=>some r
else none
else none
else 
 some no:=tL F4bK
theorem F4bE(p s):F4b p s=
(Fbo p 0 s (s.2.length:Int) 0).bind fun r=>
 some r:=tC
theorem F7tE(no p s out t14 t15 t16):F7t no p s out t14 t15 t16=
 bif t16<t15 then
 bif 0≤t16 then
 bif t16<(t14.2.length:Int) then
(F5f p ((t14.2.getD (toNat t16) ((true,[]),(true,[]))).1) s).bind fun r=>
 bif r then
(F3l p (t14.2.getD (toNat t16) ((true,[]),(true,[]))) s).bind fun r1=>
(F4b p (r1.1,r1.2)).bind fun r2=>
 bif out.2.length+[r2].length ≤lim then
(F7t no p s ((out.1&&false),(out.2++[r2])) t14 t15 (i64.wrap (t16+1))).bind fun r=>some r
else none
else 
(F7t no p s (out.1,out.2) t14 t15 (i64.wrap (t16+1))).bind fun r=>some r
else none
else none
else 
 some (out.1,out.2):=tL F27K
theorem F27E(p no):F27 p no=
(F22 p no).bind fun r=>
(F7t no p (r.1,r.2) (false,[]) p.2.2.2 (p.2.2.2.2.length:Int) 0).bind fun r1=>
 bif ((r1.2.length:Int)==0)then
 some (false,[no])
else 
(F6b (r1.1,r1.2)).bind fun r2=>
(F5v (r2.1,r2.2)).bind fun r3=>
 some (r3.1,r3.2):=tC
theorem F6pE(out t7 t8 t9):F6p out t7 t8 t9=
 bif t9<t8 then
 bif 0≤t9 then
 bif t9<(t7.2.length:Int) then
 bif (t7.2.getD (toNat t9) false)then
 bif out.2.length+[t9].length ≤lim then
(F6p ((out.1&&false),(out.2++[t9])) t7 t8 (i64.wrap (t9+1))).bind fun r=>some r
else none
else 
(F6p (out.1,out.2) t7 t8 (i64.wrap (t9+1))).bind fun r=>some r
else none
else none
else 
 some (out.1,out.2):=tL F26K
theorem F26E(list):F26 list=
(F6p (false,[]) list (list.2.length:Int) 0).bind fun r=>
 some (r.1,r.2):=tC
theorem F9cE(v in_ t11 t12 t13):F9c v in_ t11 t12 t13=
 bif t13<t12 then
 bif 0≤t13 then
 bif t13<(t11.2.length:Int) then
 bif 0≤t11.2.getD (toNat t13) 0 then
 bif t11.2.getD (toNat t13) 0<(v.2.length:Int) then
 bif 0≤v.2.getD (toNat (t11.2.getD (toNat t13) 0)) 0 then
 bif v.2.getD (toNat (t11.2.getD (toNat t13) 0)) 0<(in_.2.length:Int) then
(F9c v (in_.1,(in_.2.set (toNat (v.2.getD (toNat (t11.2.getD (toNat t13) 0)) 0)) true)) t11 t12 (i64.wrap (t13+1))).bind fun r=>some r
else none
else none
else none
else none
else none
else none
else 
 some (in_.1,in_.2):=tL F3fK
theorem F3fE(v some_):F3f v some_=
(F15 v).bind fun r=>
 bif 0≤r then
 bif r≤lim then
 bif r≤r then
 bif r≤lim then
(F9c v (false,(List.replicate (toNat r) (false:Bool))) some_ (some_.2.length:Int) 0).bind fun r1=>
(F26 (r1.1,r1.2)).bind fun r2=>
 some (r2.1,r2.2)
else none
else none
else none
else none:=tC
theorem F93E(p v next t13 t14 t15):F93 p v next t13 t14 t15=
 bif t15<t14 then
 bif 0≤t15 then
 bif t15<(t13.2.length:Int) then
(F27 p (t13.2.getD (toNat t15) 0)).bind fun r=>
 bif next.2.length+r.2.length≤lim then
(F93 p v ((next.1&&r.2.isEmpty),(next.2++r.2)) t13 t14 (i64.wrap (t15+1))).bind fun r=>some r
else none
else none
else none
else 
 some (next.1,next.2):=tL F4aK
theorem F4aE(p v class_):F4a p v class_=
(F3b v class_).bind fun r=>
(F93 p v (false,[]) (r.1,r.2) (r.2.length:Int) 0).bind fun r1=>
(F3f v (r1.1,r1.2)).bind fun r2=>
 some (r2.1,r2.2):=tC
theorem F55E(list guess node):F55 list guess node=
(F25 list node).bind fun r=>
 bif r<0 then
 none
else 
 some ((bAnd .i64 (bShr .i64 guess r) 1)==1):=tC
theorem F1yE(letter next out operands list t18 t19 t20):F1y letter next out operands list t18 t19 t20=
 bif t20<t19 then
 bif 0≤t20 then
 bif t20<(t18.2.length:Int) then
 bif ((t18.2.getD (toNat t20) (0,0)).1==1)then
 bif (t18.2.getD (toNat t20) (0,0)).2<0 then
 none
else 
 bif out.2.length+[((bAnd .i64 (bShr .i64 letter ((t18.2.getD (toNat t20) (0,0)).2)) 1)==1)].length ≤lim then
(F1y letter next ((out.1&&false),(out.2++[((bAnd .i64 (bShr .i64 letter ((t18.2.getD (toNat t20) (0,0)).2)) 1)==1)])) operands list t18 t19 (i64.wrap (t20+1))).bind fun r=>some r
else none
else 
 bif ((t18.2.getD (toNat t20) (0,0)).1==3)then
 bif 0≤t20 then
 bif t20<(operands.2.length:Int) then
 bif 0<(((operands.2.getD (toNat t20) (true,[])).2).length :Int) then
 bif 0≤((operands.2.getD (toNat t20) (true,[])).2).getD 0 0 then
 bif ((operands.2.getD (toNat t20) (true,[])).2).getD 0 0<(out.2.length:Int) then
 bif out.2.length+([!(out.2.getD (toNat (((operands.2.getD (toNat t20) (true,[])).2).getD 0 0)) false)]:List Bool).length ≤lim then
(F1y letter next ((out.1&&false),(out.2++[!(out.2.getD (toNat (((operands.2.getD (toNat t20) (true,[])).2).getD 0 0)) false)])) operands list t18 t19 (i64.wrap (t20+1))).bind fun r=>some r
else none
else none
else none
else none
else none
else none
else 
 bif ((t18.2.getD (toNat t20) (0,0)).1==4)then
 bif 0≤t20 then
 bif t20<(operands.2.length:Int) then
 bif 0<(((operands.2.getD (toNat t20) (true,[])).2).length :Int) then
(F55 list next (((operands.2.getD (toNat t20) (true,[])).2).getD 0 0)).bind fun r=>
 bif out.2.length+[r].length ≤lim then
(F1y letter next ((out.1&&false),(out.2++[r])) operands list t18 t19 (i64.wrap (t20+1))).bind fun r=>some r
else none
else none
else none
else none
else 
 bif ((t18.2.getD (toNat t20) (0,0)).1==5)then
 bif 0≤t20 then
 bif t20<(operands.2.length:Int) then
 bif 0<(((operands.2.getD (toNat t20) (true,[])).2).length :Int) then
 bif 0≤((operands.2.getD (toNat t20) (true,[])).2).getD 0 0 then
 bif ((operands.2.getD (toNat t20) (true,[])).2).getD 0 0<(out.2.length:Int) then
 bif (out.2.getD (toNat (((operands.2.getD (toNat t20) (true,[])).2).getD 0 0)) false)then
 bif 0≤t20 then
 bif t20<(operands.2.length:Int) then
 bif 1<(((operands.2.getD (toNat t20) (true,[])).2).length :Int) then
 bif 0≤((operands.2.getD (toNat t20) (true,[])).2).getD 1 0 then
 bif ((operands.2.getD (toNat t20) (true,[])).2).getD 1 0<(out.2.length:Int) then
 bif out.2.length+([(out.2.getD (toNat (((operands.2.getD (toNat t20) (true,[])).2).getD 1 0)) false)]:List Bool).length ≤lim then
(F1y letter next ((out.1&&false),(out.2++[(out.2.getD (toNat (((operands.2.getD (toNat t20) (true,[])).2).getD 1 0)) false)])) operands list t18 t19 (i64.wrap (t20+1))).bind fun r=>some r
else none
else none
else none
else none
else none
else none
else 
 bif out.2.length+[false].length ≤lim then
(F1y letter next ((out.1&&false),(out.2++[false])) operands list t18 t19 (i64.wrap (t20+1))).bind fun r=>some r
else none
else none
else none
else none
else none
else none
else 
 bif ((t18.2.getD (toNat t20) (0,0)).1==6)then
 bif 0≤t20 then
 bif t20<(operands.2.length:Int) then
 bif 0<(((operands.2.getD (toNat t20) (true,[])).2).length :Int) then
 bif 0≤((operands.2.getD (toNat t20) (true,[])).2).getD 0 0 then
 bif ((operands.2.getD (toNat t20) (true,[])).2).getD 0 0<(out.2.length:Int) then
 bif (out.2.getD (toNat (((operands.2.getD (toNat t20) (true,[])).2).getD 0 0)) false)then
 bif out.2.length+[true].length ≤lim then
(F1y letter next ((out.1&&false),(out.2++[true])) operands list t18 t19 (i64.wrap (t20+1))).bind fun r=>some r
else none
else 
 bif 0≤t20 then
 bif t20<(operands.2.length:Int) then
 bif 1<(((operands.2.getD (toNat t20) (true,[])).2).length :Int) then
 bif 0≤((operands.2.getD (toNat t20) (true,[])).2).getD 1 0 then
 bif ((operands.2.getD (toNat t20) (true,[])).2).getD 1 0<(out.2.length:Int) then
 bif out.2.length+([(out.2.getD (toNat (((operands.2.getD (toNat t20) (true,[])).2).getD 1 0)) false)]:List Bool).length ≤lim then
(F1y letter next ((out.1&&false),(out.2++[(out.2.getD (toNat (((operands.2.getD (toNat t20) (true,[])).2).getD 1 0)) false)])) operands list t18 t19 (i64.wrap (t20+1))).bind fun r=>some r
else none
else none
else none
else none
else none
else none
else none
else none
else none
else none
else none
else 
 bif ((t18.2.getD (toNat t20) (0,0)).1==7)then
 bif 0≤t20 then
 bif t20<(operands.2.length:Int) then
 bif 1<(((operands.2.getD (toNat t20) (true,[])).2).length :Int) then
 bif 0≤((operands.2.getD (toNat t20) (true,[])).2).getD 1 0 then
 bif ((operands.2.getD (toNat t20) (true,[])).2).getD 1 0<(out.2.length:Int) then
 bif (out.2.getD (toNat (((operands.2.getD (toNat t20) (true,[])).2).getD 1 0)) false)then
 bif out.2.length+[true].length ≤lim then
(F1y letter next ((out.1&&false),(out.2++[true])) operands list t18 t19 (i64.wrap (t20+1))).bind fun r=>some r
else none
else 
 bif 0≤t20 then
 bif t20<(operands.2.length:Int) then
 bif 0<(((operands.2.getD (toNat t20) (true,[])).2).length :Int) then
 bif 0≤((operands.2.getD (toNat t20) (true,[])).2).getD 0 0 then
 bif ((operands.2.getD (toNat t20) (true,[])).2).getD 0 0<(out.2.length:Int) then
 bif (out.2.getD (toNat (((operands.2.getD (toNat t20) (true,[])).2).getD 0 0)) false)then
(F55 list next t20).bind fun r1=>
 bif out.2.length+[r1].length ≤lim then
(F1y letter next ((out.1&&false),(out.2++[r1])) operands list t18 t19 (i64.wrap (t20+1))).bind fun r=>some r
else none
else 
 bif out.2.length+[false].length ≤lim then
(F1y letter next ((out.1&&false),(out.2++[false])) operands list t18 t19 (i64.wrap (t20+1))).bind fun r=>some r
else none
else none
else none
else none
else none
else none
else none
else none
else none
else none
else none
else 
 bif ((t18.2.getD (toNat t20) (0,0)).1==8)then
 bif 0≤t20 then
 bif t20<(operands.2.length:Int) then
 bif 1<(((operands.2.getD (toNat t20) (true,[])).2).length :Int) then
 bif 0≤((operands.2.getD (toNat t20) (true,[])).2).getD 1 0 then
 bif ((operands.2.getD (toNat t20) (true,[])).2).getD 1 0<(out.2.length:Int) then
 bif (out.2.getD (toNat (((operands.2.getD (toNat t20) (true,[])).2).getD 1 0)) false)then
 bif 0≤t20 then
 bif t20<(operands.2.length:Int) then
 bif 0<(((operands.2.getD (toNat t20) (true,[])).2).length :Int) then
 bif 0≤((operands.2.getD (toNat t20) (true,[])).2).getD 0 0 then
 bif ((operands.2.getD (toNat t20) (true,[])).2).getD 0 0<(out.2.length:Int) then
 bif (out.2.getD (toNat (((operands.2.getD (toNat t20) (true,[])).2).getD 0 0)) false)then
 bif out.2.length+[true].length ≤lim then
(F1y letter next ((out.1&&false),(out.2++[true])) operands list t18 t19 (i64.wrap (t20+1))).bind fun r=>some r
else none
else 
(F55 list next t20).bind fun r2=>
 bif out.2.length+[r2].length ≤lim then
(F1y letter next ((out.1&&false),(out.2++[r2])) operands list t18 t19 (i64.wrap (t20+1))).bind fun r=>some r
else none
else none
else none
else none
else none
else none
else 
 bif out.2.length+[false].length ≤lim then
(F1y letter next ((out.1&&false),(out.2++[false])) operands list t18 t19 (i64.wrap (t20+1))).bind fun r=>some r
else none
else none
else none
else none
else none
else none
else 
 bif out.2.length+[((t18.2.getD (toNat t20) (0,0)).2==1)].length ≤lim then
(F1y letter next ((out.1&&false),(out.2++[(((t18.2.getD (toNat t20) (0,0)).2)==1)])) operands list t18 t19 (i64.wrap (t20+1))).bind fun r=>some r
else none
else none
else none
else 
 some (out.1,out.2):=tL FvK
theorem FvE(f letter next):Fv f letter next=
(F2k f).bind fun r=>
(Fy f).bind fun r1=>
(F1y letter next (false,[]) (r.1,r.2) (r1.1,r1.2) f (f.2.length:Int) 0).bind fun r2=>
 some (r2.1,r2.2):=tC
theorem F75E(values guess t16 t17 t18):F75 values guess t16 t17 t18=
 bif t18<t17 then
 bif 0≤t18 then
 bif t18<(t16.2.length:Int) then
 bif 0≤t16.2.getD (toNat t18) 0 then
 bif t16.2.getD (toNat t18) 0<(values.2.length:Int) then
 bif (values.2.getD (toNat (t16.2.getD (toNat t18) 0)) false)then
 bif t18<0 then
 none
else 
(F75 values (bOr .i64 guess (bShl .i64 1 t18)) t16 t17 (i64.wrap (t18+1))).bind fun r=>some r
else 
(F75 values guess t16 t17 (i64.wrap (t18+1))).bind fun r=>some r
else none
else none
else none
else none
else 
 some guess:=tL F2rK
theorem F2rE(f letter next):F2r f letter next=
(Fv f letter next).bind fun r=>
(Fy f).bind fun r1=>
(F75 (r.1,r.2) 0 (r1.1,r1.2) (r1.2.length:Int) 0).bind fun r2=>
 some r2:=tC
theorem F6fE(guess a1 a2 a3 a4):F6f guess a1 a2 a3 a4=
(F55 a1 guess a2).bind fun r=>
 bif 0≤a2 then
 bif a2<(a3.2.length:Int) then
 bif 1<(((a3.2.getD (toNat a2) (true,[])).2).length :Int) then
(F55 a1 guess (((a3.2.getD (toNat a2) (true,[])).2).getD 1 0)).bind fun r1=>
 bif (a4.1==7)then
 bif !r then
 some true
else 
 bif r1 then
 some true
else 
 bif (a4.1==8)then
 bif r then
 some true
else 
 some (!r1)
else 
 some false
else 
 bif (a4.1==8)then
 bif r then
 some true
else 
 some (!r1)
else 
 some false
else none
else none
else none:=tC
theorem F7lE(holds out t9 t10):F7l holds out t9 t10=
 bif t10<t9 then
(F6f t10 holds.1 holds.2.1 holds.2.2.1 holds.2.2.2.1).bind fun r=>
 bif r then
 bif out.2.length+[t10].length ≤lim then
(F7l holds ((out.1&&false),(out.2++[t10])) t9 (i64.wrap (t10+1))).bind fun r=>some r
else none
else 
(F7l holds (out.1,out.2) t9 (i64.wrap (t10+1))).bind fun r=>some r
else 
 some (out.1,out.2):=tL F2gK
theorem F2gE(f holds):F2g f holds=
(F9 f).bind fun r=>
(F7l holds (false,[]) r 0).bind fun r1=>
 some (r1.1,r1.2):=tC
theorem F6aE(f out operands list t13 t14 t15):F6a f out operands list t13 t14 t15=
 bif t15<t14 then
 bif 0≤t15 then
 bif t15<(t13.2.length:Int) then
 bif ((t13.2.getD (toNat t15) (0,0)).1 !=7)then
 bif ((t13.2.getD (toNat t15) (0,0)).1 !=8)then
(F6a f (out.1,out.2) operands list t13 t14 (i64.wrap (t15+1))).bind fun r=>some r
else 
(F2g f (list,(t15,(operands,((t13.2.getD (toNat t15) (0,0)),()))))).bind fun r=>
 bif out.2.length+[(r.1,r.2)].length ≤lim then
(F6a f ((out.1&&false),(out.2++[(r.1,r.2)])) operands list t13 t14 (i64.wrap (t15+1))).bind fun r=>some r
else none
else 
(F2g f (list,(t15,(operands,((t13.2.getD (toNat t15) (0,0)),()))))).bind fun r1=>
 bif out.2.length+[(r1.1,r1.2)].length ≤lim then
(F6a f ((out.1&&false),(out.2++[(r1.1,r1.2)])) operands list t13 t14 (i64.wrap (t15+1))).bind fun r=>some r
else none
else none
else none
else 
 some (out.1,out.2):=tL F17K
theorem F17E(f):F17 f=
(F2k f).bind fun r=>
(Fy f).bind fun r1=>
(F6a f (false,[]) (r.1,r.2) (r1.1,r1.2) f (f.2.length:Int) 0).bind fun r2=>
 some (r2.1,r2.2):=tC
theorem FbsE(by_ out t9 t10 t11):Fbs by_ out t9 t10 t11=
 bif t11<t10 then
 bif 0≤t11 then
 bif t11<(t9.2.length:Int) then
 bif out.2.length+[i64.wrap ((t9.2.getD (toNat t11) 0)+by_)].length ≤lim then
(Fbs by_ ((out.1&&false),(out.2++[i64.wrap ((t9.2.getD (toNat t11) 0)+by_)])) t9 t10 (i64.wrap (t11+1))).bind fun r=>some r
else none
else none
else none
else 
 some (out.1,out.2):=tL F3gK
theorem F3gE(list by_):F3g list by_=
(Fbs by_ (false,[]) list (list.2.length:Int) 0).bind fun r=>
 some (r.1,r.2):=tC
theorem F7iE(t p out t9 t10):F7i t p out t9 t10=
 bif t10<t9 then
(F22 p t10).bind fun r=>
(F5f p t (r.1,r.2)).bind fun r1=>
 bif r1 then
 bif out.2.length+[t10].length ≤lim then
(F7i t p ((out.1&&false),(out.2++[t10])) t9 (i64.wrap (t10+1))).bind fun r=>some r
else none
else 
(F7i t p (out.1,out.2) t9 (i64.wrap (t10+1))).bind fun r=>some r
else 
 some (out.1,out.2):=tL F29K
theorem F29E(p t):F29 p t=
(F52 p).bind fun r=>
(F7i t p (false,[]) r 0).bind fun r1=>
 some (r1.1,r1.2):=tC
theorem F7uE(guess a1 a2 a3):F7u guess a1 a2 a3=
(F55 a1 guess (i64.wrap ((a2.2.length:Int)-1))).bind fun r=>
 some (r==a3):=tC
theorem F8wE(holds out t9 t10):F8w holds out t9 t10=
 bif t10<t9 then
(F7u t10 holds.1 holds.2.1 holds.2.2.1).bind fun r=>
 bif r then
 bif out.2.length+[t10].length ≤lim then
(F8w holds ((out.1&&false),(out.2++[t10])) t9 (i64.wrap (t10+1))).bind fun r=>some r
else none
else 
(F8w holds (out.1,out.2) t9 (i64.wrap (t10+1))).bind fun r=>some r
else 
 some (out.1,out.2):=tL F3dK
theorem F3dE(f holds):F3d f holds=
(F9 f).bind fun r=>
(F8w holds (false,[]) r 0).bind fun r1=>
 some (r1.1,r1.2):=tC
theorem F4xE(f holds):F4x f holds=
(Fy f).bind fun r=>
(F3d f ((r.1,r.2),(f,(holds,())))).bind fun r1=>
 some (r1.1,r1.2):=tC
theorem FcmE(q out t9 t10 t11):Fcm q out t9 t10 t11=
 bif t11<t10 then
 bif 0≤t11 then
 bif t11<(t9.2.length:Int) then
(F4x q.2.2 false).bind fun r=>
(F9 q.2.2).bind fun r1=>
(F3g (r.1,r.2) (i64.wrap ((t9.2.getD (toNat t11) 0)*r1))).bind fun r2=>
 bif out.2.length+r2.2.length≤lim then
(Fcm q ((out.1&&r2.2.isEmpty),(out.2++r2.2)) t9 t10 (i64.wrap (t11+1))).bind fun r=>some r
else none
else none
else none
else 
 some (out.1,out.2):=tL F3jK
theorem F3jE(q some_):F3j q some_=
(Fcm q (false,[]) some_ (some_.2.length:Int) 0).bind fun r=>
 some (r.1,r.2):=tC
theorem FasE(q v all_ many next goals t31 t32):Fas q v all_ many next goals t31 t32=
 bif t32<t31 then
(F6l q v t32).bind fun r=>
(F4a q.1 v t32).bind fun r1=>
(F9n q v all_ many (next.1,next.2) goals t32 r t31 t32 (r1.1,r1.2) (r1.2.length:Int) 0).bind fun r2=>
(Fas q v all_ many (r2.1,r2.2) goals t31 (i64.wrap (t32+1))).bind fun r=>some r
else 
 some (next.1,next.2):=tL FbK
theorem F9nE(q v all_ many next goals class_ letter t31 t32 t43 t44 t45):F9n q v all_ many next goals class_ letter t31 t32 t43 t44 t45=
 bif t45<t44 then
 bif 0≤t45 then
 bif t45<(t43.2.length:Int) then
(Fab q v all_ many (next.1,next.2) goals class_ letter (t43.2.getD (toNat t45) 0) t31 t32 t43 t44 t45 many 0).bind fun r=>
(F9n q v all_ many (r.1,r.2) goals class_ letter t31 t32 t43 t44 (i64.wrap (t45+1))).bind fun r=>some r
else none
else none
else 
 some (next.1,next.2):=tL FbK
theorem FabE(q v all_ many next goals class_ letter to t31 t32 t43 t44 t45 t49 t50):Fab q v all_ many next goals class_ letter to t31 t32 t43 t44 t45 t49 t50=
 bif t50<t49 then
(F2r q.2.2 letter t50).bind fun r=>
 bif 0≤i64.wrap ((i64.wrap (class_*many))+r) then
 bif i64.wrap ((i64.wrap (class_*many))+r)<(next.2.length:Int) then
 bif ((next.2.getD (toNat (i64.wrap ((i64.wrap (class_*many))+r))) (true,[])).2).length +[i64.wrap ((i64.wrap (to*many))+t50)].length ≤lim then
 bif 0≤i64.wrap ((i64.wrap (class_*many))+r) then
 bif i64.wrap ((i64.wrap (class_*many))+r)<(next.2.length:Int) then
 bif (toNat (i64.wrap ((i64.wrap (class_*many))+r))==toNat (i64.wrap ((i64.wrap (class_*many))+r)))then
(Fab q v all_ many (next.1,(next.2.set (toNat (i64.wrap ((i64.wrap (class_*many))+r))) ((((next.2.getD (toNat (i64.wrap ((i64.wrap (class_*many))+r))) (true,[])).1)&&false),(((next.2.getD (toNat (i64.wrap ((i64.wrap (class_*many))+r))) (true,[])).2)++[i64.wrap ((i64.wrap (to*many))+t50)])))) goals class_ letter to t31 t32 t43 t44 t45 t49 (i64.wrap (t50+1))).bind fun r=>some r
else none
else none
else none
else none
else none
else none
else 
 some (next.1,next.2):=tL FbK
theorem FbiE(q v all_ many next goals t81 t82 t83):Fbi q v all_ many next goals t81 t82 t83=
 bif t83<t82 then
 bif 0≤t83 then
 bif t83<(t81.2.length:Int) then
(Fa6 q v all_ many next (goals.1,goals.2) (t81.2.getD (toNat t83) (true,[])) (false,[]) t81 t82 t83 all_ 0).bind fun r=>
 bif goals.2.length+[(r.1,r.2)].length ≤lim then
(Fbi q v all_ many next ((goals.1&&false),(goals.2++[(r.1,r.2)])) t81 t82 (i64.wrap (t83+1))).bind fun r=>some r
else none
else none
else none
else 
 some (goals.1,goals.2):=tL FbK
theorem Fa6E(q v all_ many next goals goal own t81 t82 t83 t88 t89):Fa6 q v all_ many next goals goal own t81 t82 t83 t88 t89=
 bif t89<t88 then
(F3g goal (i64.wrap (t89*many))).bind fun r=>
 bif own.2.length+r.2.length≤lim then
(Fa6 q v all_ many next goals goal ((own.1&&r.2.isEmpty),(own.2++r.2)) t81 t82 t83 t88 (i64.wrap (t89+1))).bind fun r=>some r
else none
else 
 some (own.1,own.2):=tL FbK
theorem FbE(q v):Fb q v=
(F15 v).bind fun r=>
(F9 q.2.2).bind fun r1=>
 bif 0≤i64.wrap (r*r1) then
 bif i64.wrap (r*r1)≤lim then
 bif i64.wrap (r*r1)≤i64.wrap (r*r1) then
 bif i64.wrap (r*r1)≤lim then
(Fas q v r r1 (false,(List.replicate (toNat (i64.wrap (r*r1))) ((true,[]):Bool×List Int))) (false,[]) r 0).bind fun r2=>
(F17 q.2.2).bind fun r3=>
(Fbi q v r r1 (r2.1,r2.2) (false,[]) (r3.1,r3.2) (r3.2.length:Int) 0).bind fun r4=>
(F29 q.1 q.1.2.2.1).bind fun r5=>
(F3f v (r5.1,r5.2)).bind fun r6=>
(F3j q (r6.1,r6.2)).bind fun r7=>
 some ((r2.1,r2.2),((r7.1,r7.2),(r4.1,r4.2)))
else none
else none
else none
else none:=tC
theorem F8qE(x y):F8q x y=
 some (u64.wrap ((u64.wrap ((u64.wrap ((bShr .u64 x 32)*(bShr .u64 y 32)))+(bShr .u64 (u64.wrap ((u64.wrap ((bShr .u64 x 32)*(bAnd .u64 y 4294967295)))+(bShr .u64 (u64.wrap ((bAnd .u64 x 4294967295)*(bAnd .u64 y 4294967295))) 32))) 32)))+(bShr .u64 (u64.wrap ((bAnd .u64 (u64.wrap ((u64.wrap ((bShr .u64 x 32)*(bAnd .u64 y 4294967295)))+(bShr .u64 (u64.wrap ((bAnd .u64 x 4294967295)*(bAnd .u64 y 4294967295))) 32))) 4294967295)+(u64.wrap ((bAnd .u64 x 4294967295)*(bShr .u64 y 32))))) 32)),u64.wrap (x*y)):=tC
theorem F54E(x y):F54 x y=
(F8q x y).bind fun r=>
 some (r.1,r.2):=tC
theorem Fa0E(newslice n):Fa0 newslice n=
 bif n<(newslice.2.length:Int) then
 bif 0≤n then
 bif n≤(newslice.2.length:Int) then
 bif 0≤n then
 bif n≤(newslice.2.length:Int) then
(Fa0 (newslice.1,(newslice.2.take (toNat n)++(((newslice.2.take (toNat n)).drop 0).take (newslice.2.length-(toNat n))++newslice.2.drop ((toNat n)+(min ((newslice.2.take (toNat n)).drop 0).length (newslice.2.length-(toNat n))))))) (i64.wrap (n+((min ((newslice.2.take (toNat n)).drop 0).length (newslice.2.length-(toNat n)):Nat):Int)))).bind fun r=>some r
else none
else none
else none
else none
else 
 some (newslice.1,newslice.2):=tL F2bK
theorem F2bE(x count):F2b x count=
 bif count<0 then
 none
else 
(F54 (u64.wrap (x.2.length:Int)) (u64.wrap count)).bind fun r=>
 bif r.1>0 then
 none
else 
 bif r.2>9223372036854775807 then
 none
else 
 bif 0≤i64.wrap r.2 then
 bif i64.wrap r.2≤lim then
 bif i64.wrap r.2≤i64.wrap r.2 then
 bif i64.wrap r.2≤lim then
(Fa0 (false,(x.2.take (List.replicate (toNat (i64.wrap r.2)) (0:Int)).length ++(List.replicate (toNat (i64.wrap r.2)) (0:Int)).drop (min x.2.length (List.replicate (toNat (i64.wrap r.2)) (0:Int)).length))) ((min x.2.length (List.replicate (toNat (i64.wrap r.2)) (0:Int)).length :Nat):Int)).bind fun r1=>
 some (r1.1,r1.2)
else none
else none
else none
else none:=tC
theorem Fb6E(g steps open_ t17 t18 t19):Fb6 g steps open_ t17 t18 t19=
 bif t19<t18 then
 bif 0≤t19 then
 bif t19<(t17.2.length:Int) then
 bif 0≤t17.2.getD (toNat t19) 0 then
 bif t17.2.getD (toNat t19) 0<(steps.2.length:Int) then
(Fb6 g (steps.1,(steps.2.set (toNat (t17.2.getD (toNat t19) 0)) 0)) open_ t17 t18 (i64.wrap (t19+1))).bind fun r=>some r
else none
else none
else none
else none
else 
 some (steps.1,steps.2):=tL FuK
theorem FayE(g steps open_):Fay g steps open_=
 bif (open_.2.length:Int)>0 then
 bif 0<(open_.2.length:Int) then
 bif 0≤open_.2.getD 0 0 then
 bif open_.2.getD 0 0<(g.2.length:Int) then
(F6d g (steps.1,steps.2) (open_.1,open_.2) (g.2.getD (toNat (open_.2.getD 0 0)) (true,[])) (((g.2.getD (toNat (open_.2.getD 0 0)) (true,[])).2).length :Int) 0).bind fun r=>
 bif 1≤(r.2.2.length:Int) then
(Fay g (r.1.1,r.1.2) (r.2.1,((r.2.2.take r.2.2.length).drop 1))).bind fun r=>some r
else none
else none
else none
else none
else 
 some (steps.1,steps.2):=tL FuK
theorem F6dE(g steps open_ t37 t38 t39):F6d g steps open_ t37 t38 t39=
 bif t39<t38 then
 bif 0≤t39 then
 bif t39<(t37.2.length:Int) then
 bif 0≤t37.2.getD (toNat t39) 0 then
 bif t37.2.getD (toNat t39) 0<(steps.2.length:Int) then
 bif steps.2.getD (toNat (t37.2.getD (toNat t39) 0)) 0<0 then
 bif 0<(open_.2.length:Int) then
 bif 0≤open_.2.getD 0 0 then
 bif open_.2.getD 0 0<(steps.2.length:Int) then
 bif 0≤t37.2.getD (toNat t39) 0 then
 bif t37.2.getD (toNat t39) 0<(steps.2.length:Int) then
 bif open_.2.length+[(t37.2.getD (toNat t39) 0)].length ≤lim then
(F6d g (steps.1,(steps.2.set (toNat (t37.2.getD (toNat t39) 0)) (i64.wrap ((steps.2.getD (toNat (open_.2.getD 0 0)) 0)+1)))) ((open_.1&&false),(open_.2++[(t37.2.getD (toNat t39) 0)])) t37 t38 (i64.wrap (t39+1))).bind fun r=>some r
else none
else none
else none
else none
else none
else none
else 
(F6d g (steps.1,steps.2) (open_.1,open_.2) t37 t38 (i64.wrap (t39+1))).bind fun r=>some r
else none
else none
else none
else none
else 
 some ((steps.1,steps.2),(open_.1,open_.2)):=tL FuK
theorem FuE(g some_):Fu g some_=
(F2b (false,[(-1)]) (g.2.length:Int)).bind fun r=>
(F51 some_).bind fun r1=>
(Fb6 g (r.1,r.2) (r1.1,r1.2) some_ (some_.2.length:Int) 0).bind fun r2=>
(Fay g (r2.1,r2.2) (r1.1,r1.2)).bind fun r3=>
 some (r3.1,r3.2):=tC
theorem F96E(x m i):F96 x m i=
 bif i<(x.2.length:Int) then
 bif 0≤i then
 bif i<(x.2.length:Int) then
(F96 x (bif (x.2.getD (toNat i) 0)<m then(x.2.getD (toNat i) 0)else m) (i64.wrap (i+1))).bind fun r=>some r
else none
else none
else 
 some m:=tL F3qK
theorem F3qE(x):F3q x=
 bif (x.2.length:Int)<1 then
 none
else 
 bif 0<(x.2.length:Int) then
(F96 x (x.2.getD 0 0) 1).bind fun r=>
 some r
else none:=tC
theorem F63E(t_0 t_1 t_2 t_3 t_4 t_5 v t53 t54 t55):F63 t_0 t_1 t_2 t_3 t_4 t_5 v t53 t54 t55=
 bif t55<t54 then
 bif 0≤t55 then
 bif t55<(t53.2.length:Int) then
 bif 0≤t53.2.getD (toNat t55) 0 then
 bif t53.2.getD (toNat t55) 0<(t_1.2.length:Int) then
 bif (t_1.2.getD (toNat (t53.2.getD (toNat t55) 0)) 0==0)then
(F11 t_0 (t_1.1,t_1.2) (t_2.1,t_2.2) (t_3.1,t_3.2) (t_4.1,t_4.2) t_5 (t53.2.getD (toNat t55) 0)).bind fun r=>
 bif 0≤v then
 bif v<(r.2.2.1.2.length:Int) then
 bif 0≤t53.2.getD (toNat t55) 0 then
 bif t53.2.getD (toNat t55) 0<(r.2.2.1.2.length:Int) then
 bif 0≤v then
 bif v<(r.2.2.1.2.length:Int) then
(F63 r.1 (r.2.1.1,r.2.1.2) (r.2.2.1.1,(r.2.2.1.2.set (toNat v) (bif (r.2.2.1.2.getD (toNat (t53.2.getD (toNat t55) 0)) 0)<(r.2.2.1.2.getD (toNat v) 0) then(r.2.2.1.2.getD (toNat (t53.2.getD (toNat t55) 0)) 0)else(r.2.2.1.2.getD (toNat v) 0)))) (r.2.2.2.1.1,r.2.2.2.1.2) (r.2.2.2.2.1.1,r.2.2.2.2.1.2) r.2.2.2.2.2 v t53 t54 (i64.wrap (t55+1))).bind fun r=>some r
else none
else none
else none
else none
else none
else none
else 
 bif 0≤t53.2.getD (toNat t55) 0 then
 bif t53.2.getD (toNat t55) 0<(t_3.2.length:Int) then
 bif t_3.2.getD (toNat (t53.2.getD (toNat t55) 0)) 0<0 then
 bif 0≤v then
 bif v<(t_2.2.length:Int) then
 bif 0≤t53.2.getD (toNat t55) 0 then
 bif t53.2.getD (toNat t55) 0<(t_1.2.length:Int) then
 bif 0≤v then
 bif v<(t_2.2.length:Int) then
(F63 t_0 (t_1.1,t_1.2) (t_2.1,(t_2.2.set (toNat v) (bif (t_1.2.getD (toNat (t53.2.getD (toNat t55) 0)) 0)<(t_2.2.getD (toNat v) 0) then(t_1.2.getD (toNat (t53.2.getD (toNat t55) 0)) 0)else(t_2.2.getD (toNat v) 0)))) (t_3.1,t_3.2) (t_4.1,t_4.2) t_5 v t53 t54 (i64.wrap (t55+1))).bind fun r=>some r
else none
else none
else none
else none
else none
else none
else 
(F63 t_0 (t_1.1,t_1.2) (t_2.1,t_2.2) (t_3.1,t_3.2) (t_4.1,t_4.2) t_5 v t53 t54 (i64.wrap (t55+1))).bind fun r=>some r
else none
else none
else none
else none
else none
else none
else 
 some (t_0,((t_1.1,t_1.2),((t_2.1,t_2.2),((t_3.1,t_3.2),((t_4.1,t_4.2),t_5))))):=tL F11K
theorem Fc1E(t_0 t_1 t_2 t_3 t_4 t_5 k_ least t154_0 t154_1 t155 t156):Fc1 t_0 t_1 t_2 t_3 t_4 t_5 k_ least t154_0 t154_1 t155 t156=
 bif t156<t155 then
 bif 0≤t156 then
 bif t156<(((toNat t154_1)-(toNat t154_0):Nat):Int) then
 bif 0≤t_4.2.getD ((toNat t154_0)+(toNat t156)) 0 then
 bif t_4.2.getD ((toNat t154_0)+(toNat t156)) 0<(t_3.2.length:Int) then
(Fc1 t_0 (t_1.1,t_1.2) (t_2.1,t_2.2) (t_3.1,(t_3.2.set (toNat (t_4.2.getD ((toNat t154_0)+(toNat t156)) 0)) least)) (t_4.1,t_4.2) t_5 k_ least ((toNat t154_0):Int) ((toNat t154_1):Int) t155 (i64.wrap (t156+1))).bind fun r=>some r
else none
else none
else none
else none
else 
 some (t_0,((t_1.1,t_1.2),((t_2.1,t_2.2),((t_3.1,t_3.2),((t_4.1,t_4.2),t_5))))):=tL F11K
theorem F11E(a0_0 a0_1 a0_2 a0_3 a0_4 a0_5 v):F11 a0_0 a0_1 a0_2 a0_3 a0_4 a0_5 v=
 bif 0≤v then
 bif v<(a0_1.2.length:Int) then
 bif 0≤v then
 bif v<(a0_2.2.length:Int) then
 bif a0_4.2.length+[v].length ≤lim then
 bif 0≤v then
 bif v<(a0_0.2.length:Int) then
(F63 a0_0 (a0_1.1,(a0_1.2.set (toNat v) (i64.wrap (a0_5+1)))) (a0_2.1,(a0_2.2.set (toNat v) (i64.wrap (a0_5+1)))) (a0_3.1,a0_3.2) ((a0_4.1&&false),(a0_4.2++[v])) (i64.wrap (a0_5+1)) v (a0_0.2.getD (toNat v) (true,[])) (((a0_0.2.getD (toNat v) (true,[])).2).length :Int) 0).bind fun r=>
 bif 0≤v then
 bif v<(r.2.2.1.2.length:Int) then
 bif 0≤v then
 bif v<(r.2.1.2.length:Int) then
 bif r.2.2.1.2.getD (toNat v) 0<r.2.1.2.getD (toNat v) 0 then
 some (r.1,((r.2.1.1,r.2.1.2),((r.2.2.1.1,r.2.2.1.2),((r.2.2.2.1.1,r.2.2.2.1.2),((r.2.2.2.2.1.1,r.2.2.2.2.1.2),r.2.2.2.2.2)))))
else 
(F25 (r.2.2.2.2.1.1,r.2.2.2.2.1.2) v).bind fun r1=>
 bif 0≤r1 then
 bif r1≤(r.2.2.2.2.1.2.length:Int) then
(F3q (r.2.2.2.2.1.1,((r.2.2.2.2.1.2.take r.2.2.2.2.1.2.length).drop (toNat r1)))).bind fun r2=>
 bif 0≤r1 then
 bif r1≤(r.2.2.2.2.1.2.length:Int) then
(Fc1 r.1 (r.2.1.1,r.2.1.2) (r.2.2.1.1,r.2.2.1.2) (r.2.2.2.1.1,r.2.2.2.1.2) (r.2.2.2.2.1.1,r.2.2.2.2.1.2) r.2.2.2.2.2 r1 r2 ((toNat r1):Int) (r.2.2.2.2.1.2.length:Int) ((r.2.2.2.2.1.2.length-(toNat r1):Nat):Int) 0).bind fun r3=>
 bif 0≤r1 then
 bif r1≤(r3.2.2.2.2.1.2.length:Int) then
 some (r3.1,((r3.2.1.1,r3.2.1.2),((r3.2.2.1.1,r3.2.2.1.2),((r3.2.2.2.1.1,r3.2.2.2.1.2),((r3.2.2.2.2.1.1,((r3.2.2.2.2.1.2.take (toNat r1)).drop 0)),r3.2.2.2.2.2)))))
else none
else none
else none
else none
else none
else none
else none
else none
else none
else none
else none
else none
else none
else none
else none
else none
else none:=tC
theorem F6oE(t_0 t_1 t_2 t_3 t_4 t_5 t19 t20):F6o t_0 t_1 t_2 t_3 t_4 t_5 t19 t20=
 bif t20<t19 then
 bif 0≤t20 then
 bif t20<(t_1.2.length:Int) then
 bif (t_1.2.getD (toNat t20) 0==0)then
(F11 t_0 (t_1.1,t_1.2) (t_2.1,t_2.2) (t_3.1,t_3.2) (t_4.1,t_4.2) t_5 t20).bind fun r=>
(F6o r.1 (r.2.1.1,r.2.1.2) (r.2.2.1.1,r.2.2.1.2) (r.2.2.2.1.1,r.2.2.2.1.2) (r.2.2.2.2.1.1,r.2.2.2.2.1.2) r.2.2.2.2.2 t19 (i64.wrap (t20+1))).bind fun r=>some r
else 
(F6o t_0 (t_1.1,t_1.2) (t_2.1,t_2.2) (t_3.1,t_3.2) (t_4.1,t_4.2) t_5 t19 (i64.wrap (t20+1))).bind fun r=>some r
else none
else none
else 
 some (t_0,((t_1.1,t_1.2),((t_2.1,t_2.2),((t_3.1,t_3.2),((t_4.1,t_4.2),t_5))))):=tL F2eK
theorem F2eE(next):F2e next=
 bif 0≤(next.2.length:Int) then
 bif (next.2.length:Int)≤lim then
 bif (next.2.length:Int)≤(next.2.length:Int) then
 bif (next.2.length:Int)≤lim then
 bif 0≤(next.2.length:Int) then
 bif (next.2.length:Int)≤lim then
 bif (next.2.length:Int)≤(next.2.length:Int) then
 bif (next.2.length:Int)≤lim then
(F2b (false,[(-1)]) (next.2.length:Int)).bind fun r=>
(F6o next (false,(List.replicate (toNat (next.2.length:Int)) (0:Int))) (false,(List.replicate (toNat (next.2.length:Int)) (0:Int))) (r.1,r.2) (true,[]) 0 (next.2.length:Int) 0).bind fun r1=>
 some (r1.2.2.2.1.1,r1.2.2.2.1.2)
else none
else none
else none
else none
else none
else none
else none
else none:=tC
theorem Fc0E(goals part n fair out t28 t29 t30):Fc0 goals part n fair out t28 t29 t30=
 bif t30<t29 then
 bif 0≤t30 then
 bif t30<(t28.2.length:Int) then
(F8s goals part n (fair.1,fair.2) out t30 t28 t29 t30 (t28.2.getD (toNat t30) (true,[])) (((t28.2.getD (toNat t30) (true,[])).2).length :Int) 0).bind fun r=>
(Fc0 goals part n (r.1,r.2) out t28 t29 (i64.wrap (t30+1))).bind fun r=>some r
else none
else none
else 
 some (fair.1,fair.2):=tL F7K
theorem F8sE(goals part n fair out v t28 t29 t30 t35 t36 t37):F8s goals part n fair out v t28 t29 t30 t35 t36 t37=
 bif t37<t36 then
 bif 0≤t37 then
 bif t37<(t35.2.length:Int) then
 bif 0≤v then
 bif v<(part.2.length:Int) then
 bif 0≤v then
 bif v<(part.2.length:Int) then
 bif 0≤part.2.getD (toNat v) 0 then
 bif part.2.getD (toNat v) 0<(fair.2.length:Int) then
 bif (fair.2.getD (toNat (part.2.getD (toNat v) 0)) false)then
 bif 0≤part.2.getD (toNat v) 0 then
 bif part.2.getD (toNat v) 0<(fair.2.length:Int) then
(F8s goals part n (fair.1,(fair.2.set (toNat (part.2.getD (toNat v) 0)) true)) out v t28 t29 t30 t35 t36 (i64.wrap (t37+1))).bind fun r=>some r
else none
else none
else 
 bif 0≤t35.2.getD (toNat t37) 0 then
 bif t35.2.getD (toNat t37) 0<(part.2.length:Int) then
 bif 0≤v then
 bif v<(part.2.length:Int) then
 bif 0≤part.2.getD (toNat v) 0 then
 bif part.2.getD (toNat v) 0<(fair.2.length:Int) then
(F8s goals part n (fair.1,(fair.2.set (toNat (part.2.getD (toNat v) 0)) ((part.2.getD (toNat (t35.2.getD (toNat t37) 0)) 0)==(part.2.getD (toNat v) 0)))) out v t28 t29 t30 t35 t36 (i64.wrap (t37+1))).bind fun r=>some r
else none
else none
else none
else none
else none
else none
else none
else none
else none
else none
else none
else none
else none
else none
else 
 some (fair.1,fair.2):=tL F7K
theorem FbvE(part n fair out t67 t68 t69):Fbv part n fair out t67 t68 t69=
 bif t69<t68 then
 bif 0≤t69 then
 bif t69<(t67.2.length:Int) then
 bif 0≤n then
 bif n≤lim then
 bif n≤n then
 bif n≤lim then
(Fco part n (fair.1,fair.2) out (false,(List.replicate (toNat n) (false:Bool))) t67 t68 t69 (t67.2.getD (toNat t69) (true,[])) (((t67.2.getD (toNat t69) (true,[])).2).length :Int) 0).bind fun r=>
(F8m part n (fair.1,fair.2) out (r.1,r.2) t67 t68 t69 (fair.2.length:Int) 0).bind fun r1=>
(Fbv part n (r1.1,r1.2) out t67 t68 (i64.wrap (t69+1))).bind fun r=>some r
else none
else none
else none
else none
else none
else none
else 
 some (fair.1,fair.2):=tL F7K
theorem FcoE(part n fair out has t67 t68 t69 t75 t76 t77):Fco part n fair out has t67 t68 t69 t75 t76 t77=
 bif t77<t76 then
 bif 0≤t77 then
 bif t77<(t75.2.length:Int) then
 bif 0≤t75.2.getD (toNat t77) 0 then
 bif t75.2.getD (toNat t77) 0<(part.2.length:Int) then
 bif 0≤part.2.getD (toNat (t75.2.getD (toNat t77) 0)) 0 then
 bif part.2.getD (toNat (t75.2.getD (toNat t77) 0)) 0<(has.2.length:Int) then
(Fco part n fair out (has.1,(has.2.set (toNat (part.2.getD (toNat (t75.2.getD (toNat t77) 0)) 0)) true)) t67 t68 t69 t75 t76 (i64.wrap (t77+1))).bind fun r=>some r
else none
else none
else none
else none
else none
else none
else 
 some (has.1,has.2):=tL F7K
theorem F8mE(part n fair out has t67 t68 t69 t89 t90):F8m part n fair out has t67 t68 t69 t89 t90=
 bif t90<t89 then
 bif 0≤t90 then
 bif t90<(fair.2.length:Int) then
 bif (fair.2.getD (toNat t90) false)then
 bif 0≤t90 then
 bif t90<(has.2.length:Int) then
 bif 0≤t90 then
 bif t90<(fair.2.length:Int) then
(F8m part n (fair.1,(fair.2.set (toNat t90) (has.2.getD (toNat t90) false))) out has t67 t68 t69 t89 (i64.wrap (t90+1))).bind fun r=>some r
else none
else none
else none
else none
else 
 bif 0≤t90 then
 bif t90<(fair.2.length:Int) then
(F8m part n (fair.1,(fair.2.set (toNat t90) false)) out has t67 t68 t69 t89 (i64.wrap (t90+1))).bind fun r=>some r
else none
else none
else none
else none
else 
 some (fair.1,fair.2):=tL F7K
theorem Fc9E(part fair out t109 t110):Fc9 part fair out t109 t110=
 bif t110<t109 then
 bif 0≤t110 then
 bif t110<(part.2.length:Int) then
 bif 0≤part.2.getD (toNat t110) 0 then
 bif part.2.getD (toNat t110) 0<(fair.2.length:Int) then
 bif 0≤t110 then
 bif t110<(out.2.length:Int) then
(Fc9 part fair (out.1,(out.2.set (toNat t110) (fair.2.getD (toNat (part.2.getD (toNat t110) 0)) false))) t109 (i64.wrap (t110+1))).bind fun r=>some r
else none
else none
else none
else none
else none
else none
else 
 some (out.1,out.2):=tL F7K
theorem F7E(next goals):F7 next goals=
(F2e next).bind fun r=>
 bif 0≤(next.2.length:Int) then
 bif (next.2.length:Int)≤lim then
 bif (next.2.length:Int)≤(next.2.length:Int) then
 bif (next.2.length:Int)≤lim then
 bif 0≤(next.2.length:Int) then
 bif (next.2.length:Int)≤lim then
 bif (next.2.length:Int)≤(next.2.length:Int) then
 bif (next.2.length:Int)≤lim then
(Fc0 goals (r.1,r.2) (next.2.length:Int) (false,(List.replicate (toNat (next.2.length:Int)) (false:Bool))) (false,(List.replicate (toNat (next.2.length:Int)) (false:Bool))) next (next.2.length:Int) 0).bind fun r1=>
(Fbv (r.1,r.2) (next.2.length:Int) (r1.1,r1.2) (false,(List.replicate (toNat (next.2.length:Int)) (false:Bool))) goals (goals.2.length:Int) 0).bind fun r2=>
(Fc9 (r.1,r.2) (r2.1,r2.2) (false,(List.replicate (toNat (next.2.length:Int)) (false:Bool))) ((List.replicate (toNat (next.2.length:Int)) (false:Bool)).length :Int) 0).bind fun r3=>
 some (r3.1,r3.2)
else none
else none
else none
else none
else none
else none
else none
else none:=tC
theorem F5cE(steps best t16 t17 t18):F5c steps best t16 t17 t18=
 bif t18<t17 then
 bif 0≤t18 then
 bif t18<(t16.2.length:Int) then
 bif (t16.2.getD (toNat t18) false)then
 bif 0≤t18 then
 bif t18<(steps.2.length:Int) then
 bif steps.2.getD (toNat t18) 0≥0 then
 bif best<0 then
(F5c steps t18 t16 t17 (i64.wrap (t18+1))).bind fun r=>some r
else 
 bif 0≤t18 then
 bif t18<(steps.2.length:Int) then
 bif 0≤best then
 bif best<(steps.2.length:Int) then
 bif steps.2.getD (toNat t18) 0<steps.2.getD (toNat best) 0 then
(F5c steps t18 t16 t17 (i64.wrap (t18+1))).bind fun r=>some r
else 
(F5c steps best t16 t17 (i64.wrap (t18+1))).bind fun r=>some r
else none
else none
else none
else none
else 
(F5c steps best t16 t17 (i64.wrap (t18+1))).bind fun r=>some r
else none
else none
else 
(F5c steps best t16 t17 (i64.wrap (t18+1))).bind fun r=>some r
else none
else none
else 
 some best:=tL F20K
theorem F20E(next from_ goals):F20 next from_ goals=
(Fu next from_).bind fun r=>
(F7 next goals).bind fun r1=>
(F5c (r.1,r.2) (-1) (r1.1,r1.2) (r1.2.length:Int) 0).bind fun r2=>
 some r2:=tC
theorem FbbE(out t11 t12 t13):Fbb out t11 t12 t13=
 bif t13<t12 then
 bif 0≤t13 then
 bif t13<(t11.2.length:Int) then
(Fc2 (out.1,out.2) t13 t11 t12 t13 (t11.2.getD (toNat t13) (true,[])) (((t11.2.getD (toNat t13) (true,[])).2).length :Int) 0).bind fun r=>
(Fbb (r.1,r.2) t11 t12 (i64.wrap (t13+1))).bind fun r=>some r
else none
else none
else 
 some (out.1,out.2):=tL F1lK
theorem Fc2E(out v t11 t12 t13 t18 t19 t20):Fc2 out v t11 t12 t13 t18 t19 t20=
 bif t20<t19 then
 bif 0≤t20 then
 bif t20<(t18.2.length:Int) then
 bif 0≤t18.2.getD (toNat t20) 0 then
 bif t18.2.getD (toNat t20) 0<(out.2.length:Int) then
 bif ((out.2.getD (toNat (t18.2.getD (toNat t20) 0)) (true,[])).2).length +[v].length ≤lim then
 bif 0≤t18.2.getD (toNat t20) 0 then
 bif t18.2.getD (toNat t20) 0<(out.2.length:Int) then
 bif (toNat (t18.2.getD (toNat t20) 0)==toNat (t18.2.getD (toNat t20) 0))then
(Fc2 (out.1,(out.2.set (toNat (t18.2.getD (toNat t20) 0)) ((((out.2.getD (toNat (t18.2.getD (toNat t20) 0)) (true,[])).1)&&false),(((out.2.getD (toNat (t18.2.getD (toNat t20) 0)) (true,[])).2)++[v])))) v t11 t12 t13 t18 t19 (i64.wrap (t20+1))).bind fun r=>some r
else none
else none
else none
else none
else none
else none
else none
else none
else 
 some (out.1,out.2):=tL F1lK
theorem F1lE(g):F1l g=
 bif 0≤(g.2.length:Int) then
 bif (g.2.length:Int)≤lim then
 bif (g.2.length:Int)≤(g.2.length:Int) then
 bif (g.2.length:Int)≤lim then
(Fbb (false,(List.replicate (toNat (g.2.length:Int)) ((true,[]):Bool×List Int))) g (g.2.length:Int) 0).bind fun r=>
 some (r.1,r.2)
else none
else none
else none
else none:=tC
theorem F72E(w a1 a2):F72 w a1 a2=
 bif 0≤w then
 bif w<(a1.2.length:Int) then
 bif 0≤a2 then
 bif a2<(a1.2.length:Int) then
 some ((a1.2.getD (toNat w) 0)==(i64.wrap ((a1.2.getD (toNat a2) 0)-1)))
else none
else none
else none
else none:=tC
theorem FahE(s f t7 t8):Fah s f t7 t8=
 bif t8<t7 then
 bif 0≤t8 then
 bif t8<(s.2.length:Int) then
(F72 (s.2.getD (toNat t8) 0) f.1 f.2.1).bind fun r=>
 bif r then
 some (.inl t8)
else 
(Fah s f t7 (i64.wrap (t8+1))).bind fun r=>some r
else none
else none
else 
 some (.inr ()):=tL F4qK
theorem F4qE(s f):F4q s f=
(Fah s f (s.2.length:Int) 0).bind fun r=>
 match r with
| .inl y=>
 some y
| .inr z=>
 some (-1):=tC
theorem F5gE(g steps best t18 t19 t20):F5g g steps best t18 t19 t20=
 bif t20<t19 then
 bif 0≤t20 then
 bif t20<(t18.2.length:Int) then
 bif 0≤t18.2.getD (toNat t20) 0 then
 bif t18.2.getD (toNat t20) 0<(steps.2.length:Int) then
 bif steps.2.getD (toNat (t18.2.getD (toNat t20) 0)) 0≥0 then
 bif best<0 then
(F5g g steps (t18.2.getD (toNat t20) 0) t18 t19 (i64.wrap (t20+1))).bind fun r=>some r
else 
 bif 0≤t18.2.getD (toNat t20) 0 then
 bif t18.2.getD (toNat t20) 0<(steps.2.length:Int) then
 bif 0≤best then
 bif best<(steps.2.length:Int) then
 bif steps.2.getD (toNat (t18.2.getD (toNat t20) 0)) 0<steps.2.getD (toNat best) 0 then
(F5g g steps (t18.2.getD (toNat t20) 0) t18 t19 (i64.wrap (t20+1))).bind fun r=>some r
else 
(F5g g steps best t18 t19 (i64.wrap (t20+1))).bind fun r=>some r
else none
else none
else none
else none
else 
(F5g g steps best t18 t19 (i64.wrap (t20+1))).bind fun r=>some r
else none
else none
else none
else none
else 
 some best:=tL FmK
theorem FceE(g steps way v):Fce g steps way v=
 bif 0≤v then
 bif v<(steps.2.length:Int) then
 bif steps.2.getD (toNat v) 0>0 then
 bif 0≤v then
 bif v<(g.2.length:Int) then
(F4q (g.2.getD (toNat v) (true,[])) (steps,(v,()))).bind fun r=>
 bif 0≤v then
 bif v<(g.2.length:Int) then
 bif 0≤r then
 bif r<(((g.2.getD (toNat v) (true,[])).2).length :Int) then
 bif way.2.length+([(((g.2.getD (toNat v) (true,[])).2).getD (toNat r) 0)]:List Int).length ≤lim then
(Fce g steps ((way.1&&false),(way.2++[(((g.2.getD (toNat v) (true,[])).2).getD (toNat r) 0)])) (((g.2.getD (toNat v) (true,[])).2).getD (toNat r) 0)).bind fun r=>some r
else none
else none
else none
else none
else none
else none
else none
else 
 some (way.1,way.2)
else none
else none:=tL FmK
theorem FmE(g from_ to):Fm g from_ to=
(F1l g).bind fun r=>
(Fu (r.1,r.2) to).bind fun r1=>
(F5g g (r1.1,r1.2) (-1) from_ (from_.2.length:Int) 0).bind fun r2=>
 bif r2<0 then
 some (true,[])
else 
(Fce g (r1.1,r1.2) (false,[r2]) r2).bind fun r3=>
 some (r3.1,r3.2):=tC
theorem FarE(part own out t15 t16 t17):Far part own out t15 t16 t17=
 bif t17<t16 then
 bif 0≤t17 then
 bif t17<(t15.2.length:Int) then
(F62 part own (out.1,out.2) t17 t15 t16 t17 (t15.2.getD (toNat t17) (true,[])) (((t15.2.getD (toNat t17) (true,[])).2).length :Int) 0).bind fun r=>
(Far part own (r.1,r.2) t15 t16 (i64.wrap (t17+1))).bind fun r=>some r
else none
else none
else 
 some (out.1,out.2):=tL F16K
theorem F62E(part own out v t15 t16 t17 t22 t23 t24):F62 part own out v t15 t16 t17 t22 t23 t24=
 bif t24<t23 then
 bif 0≤t24 then
 bif t24<(t22.2.length:Int) then
 bif 0≤v then
 bif v<(part.2.length:Int) then
 bif (part.2.getD (toNat v) 0==own)then
 bif 0≤t22.2.getD (toNat t24) 0 then
 bif t22.2.getD (toNat t24) 0<(part.2.length:Int) then
 bif (part.2.getD (toNat (t22.2.getD (toNat t24) 0)) 0==own)then
 bif 0≤v then
 bif v<(out.2.length:Int) then
 bif ((out.2.getD (toNat v) (true,[])).2).length +[(t22.2.getD (toNat t24) 0)].length ≤lim then
 bif 0≤v then
 bif v<(out.2.length:Int) then
 bif (toNat v==toNat v)then
(F62 part own (out.1,(out.2.set (toNat v) ((((out.2.getD (toNat v) (true,[])).1)&&false),(((out.2.getD (toNat v) (true,[])).2)++[(t22.2.getD (toNat t24) 0)])))) v t15 t16 t17 t22 t23 (i64.wrap (t24+1))).bind fun r=>some r
else none
else none
else none
else none
else none
else none
else 
(F62 part own (out.1,out.2) v t15 t16 t17 t22 t23 (i64.wrap (t24+1))).bind fun r=>some r
else none
else none
else 
(F62 part own (out.1,out.2) v t15 t16 t17 t22 t23 (i64.wrap (t24+1))).bind fun r=>some r
else none
else none
else none
else none
else 
 some (out.1,out.2):=tL F16K
theorem F16E(next part own):F16 next part own=
 bif 0≤(next.2.length:Int) then
 bif (next.2.length:Int)≤lim then
 bif (next.2.length:Int)≤(next.2.length:Int) then
 bif (next.2.length:Int)≤lim then
(Far part own (false,(List.replicate (toNat (next.2.length:Int)) ((true,[]):Bool×List Int))) next (next.2.length:Int) 0).bind fun r=>
 some (r.1,r.2)
else none
else none
else none
else none:=tC
theorem F61E(v a1 a2):F61 v a1 a2=
 bif 0≤v then
 bif v<(a1.2.length:Int) then
 bif 0≤a2 then
 bif a2<(a1.2.length:Int) then
 some ((a1.2.getD (toNat v) 0) !=(a1.2.getD (toNat a2) 0))
else none
else none
else none
else none:=tC
theorem Fc8E(s f t7 t8):Fc8 s f t7 t8=
 bif t8<t7 then
 bif 0≤t8 then
 bif t8<(s.2.length:Int) then
(F61 (s.2.getD (toNat t8) 0) f.1 f.2.1).bind fun r=>
 bif r then
 some (.inl t8)
else 
(Fc8 s f t7 (i64.wrap (t8+1))).bind fun r=>some r
else none
else none
else 
 some (.inr ()):=tL F4iK
theorem F4iE(s f):F4i s f=
(Fc8 s f (s.2.length:Int) 0).bind fun r=>
 match r with
| .inl y=>
 some y
| .inr z=>
 some (-1):=tC
theorem F8nE(s del i j):F8n s del i j=
 bif j<(s.2.length:Int) then
 bif 0≤j then
 bif j<(s.2.length:Int) then
(F61 (s.2.getD (toNat j) 0) del.1 del.2.1).bind fun r=>
 bif !r then
 bif 0≤i then
 bif i<(s.2.length:Int) then
(F8n (s.1,(s.2.set (toNat i) (s.2.getD (toNat j) 0))) del (i64.wrap (i+1)) (i64.wrap (j+1))).bind fun r=>some r
else none
else none
else 
(F8n (s.1,s.2) del i (i64.wrap (j+1))).bind fun r=>some r
else none
else none
else 
 some ((s.1,s.2),i):=tL F2tK
theorem F2tE(s del):F2t s del=
(F4i (s.1,s.2) del).bind fun r=>
 bif (r==(-1))then
 some (s.1,s.2)
else 
(F8n (s.1,s.2) del r (i64.wrap (r+1))).bind fun r1=>
 bif 0≤r1.2 then
 bif r1.2≤(r1.1.2.length:Int) then
 bif 0≤r1.2 then
 bif r1.2≤((r1.1.2.take (toNat r1.2)++(List.replicate (r1.1.2.length-(toNat r1.2)) (0:Int)++r1.1.2.drop r1.1.2.length)).length :Int) then
 some (r1.1.1,(((r1.1.2.take (toNat r1.2)++(List.replicate (r1.1.2.length-(toNat r1.2)) (0:Int)++r1.1.2.drop r1.1.2.length)).take (toNat r1.2)).drop 0))
else none
else none
else none
else none:=tC
theorem FbuE(meet stem part arcs loop t41 t42 t43):Fbu meet stem part arcs loop t41 t42 t43=
 bif t43<t42 then
 bif 0≤t43 then
 bif t43<(t41.2.length:Int) then
(F51 (t41.2.getD (toNat t43) (true,[]))).bind fun r=>
(F2t (r.1,r.2) (part,(meet,()))).bind fun r1=>
 bif 0≤i64.wrap ((loop.2.length:Int)-1) then
 bif i64.wrap ((loop.2.length:Int)-1)≤(loop.2.length:Int) then
(Fm arcs (loop.1,((loop.2.take loop.2.length).drop (toNat (i64.wrap ((loop.2.length:Int)-1))))) (r1.1,r1.2)).bind fun r2=>
 bif 1≤(r2.2.length:Int) then
 bif loop.2.length+((r2.2.take r2.2.length).drop 1).length ≤lim then
(Fbu meet stem part arcs ((loop.1&&((r2.2.take r2.2.length).drop 1).isEmpty),(loop.2++((r2.2.take r2.2.length).drop 1))) t41 t42 (i64.wrap (t43+1))).bind fun r=>some r
else none
else none
else none
else none
else none
else none
else 
 some (loop.1,loop.2):=tL F1dK
theorem F1dE(next from_ goals):F1d next from_ goals=
(F20 next from_ goals).bind fun r=>
 bif r<0 then
 some ((true,[]),((true,[]),false))
else 
(Fm next from_ (false,[r])).bind fun r1=>
(F2e next).bind fun r2=>
 bif 0≤r then
 bif r<(r2.2.length:Int) then
(F16 next (r2.1,r2.2) (r2.2.getD (toNat r) 0)).bind fun r3=>
(Fbu r (r1.1,r1.2) (r2.1,r2.2) (r3.1,r3.2) (false,[r]) goals (goals.2.length:Int) 0).bind fun r4=>
 bif 0≤i64.wrap ((r4.2.length:Int)-1) then
 bif i64.wrap ((r4.2.length:Int)-1)<(r4.2.length:Int) then
 bif 0≤r4.2.getD (toNat (i64.wrap ((r4.2.length:Int)-1))) 0 then
 bif r4.2.getD (toNat (i64.wrap ((r4.2.length:Int)-1))) 0<(r3.2.length:Int) then
(Fm (r3.1,r3.2) (r3.2.getD (toNat (r4.2.getD (toNat (i64.wrap ((r4.2.length:Int)-1))) 0)) (true,[])) (false,[r])).bind fun r5=>
 bif 0≤i64.wrap ((r1.2.length:Int)-1) then
 bif i64.wrap ((r1.2.length:Int)-1)≤(r1.2.length:Int) then
 bif 0≤i64.wrap ((r5.2.length:Int)-1) then
 bif i64.wrap ((r5.2.length:Int)-1)≤(r5.2.length:Int) then
 bif r4.2.length+((r5.2.take (toNat (i64.wrap ((r5.2.length:Int)-1)))).drop 0).length ≤lim then
 some ((r1.1,((r1.2.take (toNat (i64.wrap ((r1.2.length:Int)-1)))).drop 0)),(((r4.1&&((r5.2.take (toNat (i64.wrap ((r5.2.length:Int)-1)))).drop 0).isEmpty),(r4.2++((r5.2.take (toNat (i64.wrap ((r5.2.length:Int)-1)))).drop 0))),true))
else none
else none
else none
else none
else none
else none
else none
else none
else none
else none
else none:=tC
theorem FcdE(t1 out t8 t9 t10):Fcd t1 out t8 t9 t10=
 bif t10<t9 then
 bif 0≤t10 then
 bif t10<(t8.2.length:Int) then
(F9 t1.2.2).bind fun r=>
 bif (r==0)then
 none
else 
 bif out.2.length+[i64.wrap (Int.tdiv (t8.2.getD (toNat t10) 0) r)].length ≤lim then
(Fcd t1 ((out.1&&false),(out.2++[i64.wrap (Int.tdiv (t8.2.getD (toNat t10) 0) r)])) t8 t9 (i64.wrap (t10+1))).bind fun r=>some r
else none
else none
else none
else 
 some (out.1,out.2):=tL F31K
theorem F31E(list a1):F31 list a1=
(Fcd a1 (false,[]) list (list.2.length:Int) 0).bind fun r=>
 some (r.1,r.2):=tC
theorem F1bE(q v):F1b q v=
(Fb q v).bind fun r=>
(F1d (r.1.1,r.1.2) (r.2.1.1,r.2.1.2) (r.2.2.1,r.2.2.2)).bind fun r1=>
(F31 (r1.1.1,r1.1.2) q).bind fun r2=>
(F31 (r1.2.1.1,r1.2.1.2) q).bind fun r3=>
 some ((r2.1,r2.2),((r3.1,r3.2),r1.2.2)):=tC
theorem F6zE(n):F6z n=
 bif n<0 then
 none
else 
 bif i64.wrap (n-(i64.wrap (0-0)))>0 then
 bif 0≤i64.wrap (n-(i64.wrap (0-0))) then
 bif i64.wrap (n-(i64.wrap (0-0)))≤lim then
 bif ([]:List Int).length +(List.replicate (toNat (i64.wrap (n-(i64.wrap (0-0))))) (0:Int)).length ≤lim then
 bif 0≤(([]++(List.replicate (toNat (i64.wrap (n-(i64.wrap (0-0))))) (0:Int))).length :Int) then
 some ((List.replicate (toNat (i64.wrap (n-(i64.wrap (0-0))))) (0:Int)).isEmpty,((([]++(List.replicate (toNat (i64.wrap (n-(i64.wrap (0-0))))) (0:Int))).take 0).drop 0))
else none
else none
else none
else none
else 
 some (true,[]):=tC
theorem FbhE(slices size_ t9 t10 t11):Fbh slices size_ t9 t10 t11=
 bif t11<t10 then
 bif 0≤t11 then
 bif t11<(t9.2.length:Int) then
 bif i64.wrap (size_+(((t9.2.getD (toNat t11) (true,[])).2).length :Int))<0 then
 none
else 
(Fbh slices (i64.wrap (size_+(((t9.2.getD (toNat t11) (true,[])).2).length :Int))) t9 t10 (i64.wrap (t11+1))).bind fun r=>some r
else none
else none
else 
 some size_:=tL F1oK
theorem FauE(newslice t25 t26 t27):Fau newslice t25 t26 t27=
 bif t27<t26 then
 bif 0≤t27 then
 bif t27<(t25.2.length:Int) then
 bif newslice.2.length+((t25.2.getD (toNat t27) (true,[])).2 :List Int).length ≤lim then
(Fau ((newslice.1&&((t25.2.getD (toNat t27) (true,[])).2).isEmpty),(newslice.2++((t25.2.getD (toNat t27) (true,[])).2))) t25 t26 (i64.wrap (t27+1))).bind fun r=>some r
else none
else none
else none
else 
 some (newslice.1,newslice.2):=tL F1oK
theorem F1oE(slices):F1o slices=
(Fbh slices 0 slices (slices.2.length:Int) 0).bind fun r=>
(F6z r).bind fun r1=>
(Fau (r1.1,r1.2) slices (slices.2.length:Int) 0).bind fun r2=>
 some (r2.1,r2.2):=tC
theorem F60E(p stem loop):F60 p stem loop=
(F52 p).bind fun r=>
(F2b loop (i64.wrap (r+1))).bind fun r1=>
(F1o (false,[stem,(r1.1,r1.2)])).bind fun r2=>
 some (r2.1,r2.2):=tC
theorem F94E(p out t7 t8):F94 p out t7 t8=
 bif t8<t7 then
(F27 p t8).bind fun r=>
 bif out.2.length+[(r.1,r.2)].length ≤lim then
(F94 p ((out.1&&false),(out.2++[(r.1,r.2)])) t7 (i64.wrap (t8+1))).bind fun r=>some r
else none
else 
 some (out.1,out.2):=tL F3cK
theorem F3cE(p):F3c p=
(F52 p).bind fun r=>
(F94 p (false,[]) r 0).bind fun r1=>
 some (r1.1,r1.2):=tC
theorem F64E(no a1 a2):F64 no a1 a2=
 bif 0≤no then
 bif no<(a1.2.length:Int) then
 some ((a1.2.getD (toNat no) 0) !=a2)
else none
else none:=tC
theorem Fc5E(s f t7 t8):Fc5 s f t7 t8=
 bif t8<t7 then
 bif 0≤t8 then
 bif t8<(s.2.length:Int) then
(F64 (s.2.getD (toNat t8) 0) f.1 f.2.1).bind fun r=>
 bif r then
 some (.inl t8)
else 
(Fc5 s f t7 (i64.wrap (t8+1))).bind fun r=>some r
else none
else none
else 
 some (.inr ()):=tL F4dK
theorem F4dE(s f):F4d s f=
(Fc5 s f (s.2.length:Int) 0).bind fun r=>
 match r with
| .inl y=>
 some y
| .inr z=>
 some (-1):=tC
theorem F7xE(s del i j):F7x s del i j=
 bif j<(s.2.length:Int) then
 bif 0≤j then
 bif j<(s.2.length:Int) then
(F64 (s.2.getD (toNat j) 0) del.1 del.2.1).bind fun r=>
 bif !r then
 bif 0≤i then
 bif i<(s.2.length:Int) then
(F7x (s.1,(s.2.set (toNat i) (s.2.getD (toNat j) 0))) del (i64.wrap (i+1)) (i64.wrap (j+1))).bind fun r=>some r
else none
else none
else 
(F7x (s.1,s.2) del i (i64.wrap (j+1))).bind fun r=>some r
else none
else none
else 
 some ((s.1,s.2),i):=tL F2mK
theorem F2mE(s del):F2m s del=
(F4d (s.1,s.2) del).bind fun r=>
 bif (r==(-1))then
 some (s.1,s.2)
else 
(F7x (s.1,s.2) del r (i64.wrap (r+1))).bind fun r1=>
 bif 0≤r1.2 then
 bif r1.2≤(r1.1.2.length:Int) then
 bif 0≤r1.2 then
 bif r1.2≤((r1.1.2.take (toNat r1.2)++(List.replicate (r1.1.2.length-(toNat r1.2)) (0:Int)++r1.1.2.drop r1.1.2.length)).length :Int) then
 some (r1.1.1,(((r1.1.2.take (toNat r1.2)++(List.replicate (r1.1.2.length-(toNat r1.2)) (0:Int)++r1.1.2.drop r1.1.2.length)).take (toNat r1.2)).drop 0))
else none
else none
else none
else none:=tC
theorem F7oE(p v out next now t24 t25 t26):F7o p v out next now t24 t25 t26=
 bif t26<t25 then
 bif 0≤t26 then
 bif t26<(t24.2.length:Int) then
 bif t26>0 then
(F52 p).bind fun r=>
 bif 0≤r then
 bif r≤lim then
 bif r≤r then
 bif r≤lim then
(Fap p v (out.1,out.2) next (t24.2.getD (toNat t26) 0) (false,(List.replicate (toNat r) (false:Bool))) t24 t25 t26 (now.1,now.2) (now.2.length:Int) 0).bind fun r1=>
(F26 (r1.1,r1.2)).bind fun r2=>
(F2m (r2.1,r2.2) (v,((t24.2.getD (toNat t26) 0),()))).bind fun r3=>
(F51 (r3.1,r3.2)).bind fun r4=>
 bif out.2.length+[(r4.1,r4.2)].length ≤lim then
(F7o p v ((out.1&&false),(out.2++[(r4.1,r4.2)])) next (r3.1,r3.2) t24 t25 (i64.wrap (t26+1))).bind fun r=>some r
else none
else none
else none
else none
else none
else 
(F2m (now.1,now.2) (v,((t24.2.getD (toNat t26) 0),()))).bind fun r5=>
(F51 (r5.1,r5.2)).bind fun r6=>
 bif out.2.length+[(r6.1,r6.2)].length ≤lim then
(F7o p v ((out.1&&false),(out.2++[(r6.1,r6.2)])) next (r5.1,r5.2) t24 t25 (i64.wrap (t26+1))).bind fun r=>some r
else none
else none
else none
else 
 some (out.1,out.2):=tL FfK
theorem FapE(p v out next class_ in_ t24 t25 t26 t36 t37 t38):Fap p v out next class_ in_ t24 t25 t26 t36 t37 t38=
 bif t38<t37 then
 bif 0≤t38 then
 bif t38<(t36.2.length:Int) then
 bif 0≤t36.2.getD (toNat t38) 0 then
 bif t36.2.getD (toNat t38) 0<(next.2.length:Int) then
(F9w p v out next class_ (in_.1,in_.2) t24 t25 t26 t36 t37 t38 (next.2.getD (toNat (t36.2.getD (toNat t38) 0)) (true,[])) (((next.2.getD (toNat (t36.2.getD (toNat t38) 0)) (true,[])).2).length :Int) 0).bind fun r=>
(Fap p v out next class_ (r.1,r.2) t24 t25 t26 t36 t37 (i64.wrap (t38+1))).bind fun r=>some r
else none
else none
else none
else none
else 
 some (in_.1,in_.2):=tL FfK
theorem F9wE(p v out next class_ in_ t24 t25 t26 t36 t37 t38 t45 t46 t47):F9w p v out next class_ in_ t24 t25 t26 t36 t37 t38 t45 t46 t47=
 bif t47<t46 then
 bif 0≤t47 then
 bif t47<(t45.2.length:Int) then
 bif 0≤t45.2.getD (toNat t47) 0 then
 bif t45.2.getD (toNat t47) 0<(in_.2.length:Int) then
(F9w p v out next class_ (in_.1,(in_.2.set (toNat (t45.2.getD (toNat t47) 0)) true)) t24 t25 t26 t36 t37 t38 t45 t46 (i64.wrap (t47+1))).bind fun r=>some r
else none
else none
else none
else none
else 
 some (in_.1,in_.2):=tL FfK
theorem FfE(p v path):Ff p v path=
(F3c p).bind fun r=>
(F29 p p.2.2.1).bind fun r1=>
(F7o p v (false,[]) (r.1,r.2) (r1.1,r1.2) path (path.2.length:Int) 0).bind fun r2=>
 some (r2.1,r2.2):=tC
theorem F6sE(list):F6s list=
 some ((list.2.length:Int)==0):=tC
theorem FbcE(s f t7 t8):Fbc s f t7 t8=
 bif t8<t7 then
 bif 0≤t8 then
 bif t8<(s.2.length:Int) then
(F6s (s.2.getD (toNat t8) (true,[]))).bind fun r=>
 bif r then
 some (.inl t8)
else 
(Fbc s f t7 (i64.wrap (t8+1))).bind fun r=>some r
else none
else none
else 
 some (.inr ()):=tL F41K
theorem F41E(s f):F41 s f=
(Fbc s f (s.2.length:Int) 0).bind fun r=>
 match r with
| .inl y=>
 some y
| .inr z=>
 some (-1):=tC
theorem F4vE(along):F4v along=
(F41 along ()).bind fun r=>
 some r:=tC
theorem F5sE(s v):F5s s v=
(F25 s v).bind fun r=>
 some (decide (r≥0)):=tC
theorem F4yE(to a1 a2):F4y to a1 a2=
 bif 0≤i64.wrap (a2+1) then
 bif i64.wrap (a2+1)<(a1.2.length:Int) then
(F5s (a1.2.getD (toNat (i64.wrap (a2+1))) (true,[])) to).bind fun r=>
 some r
else none
else none:=tC
theorem F91E(s f t7 t8):F91 s f t7 t8=
 bif t8<t7 then
 bif 0≤t8 then
 bif t8<(s.2.length:Int) then
(F4y (s.2.getD (toNat t8) 0) f.1 f.2.1).bind fun r=>
 bif r then
 some (.inl t8)
else 
(F91 s f t7 (i64.wrap (t8+1))).bind fun r=>some r
else none
else none
else 
 some (.inr ()):=tL FsK
theorem FsE(s f):Fs s f=
(F91 s f (s.2.length:Int) 0).bind fun r=>
 match r with
| .inl y=>
 some y
| .inr z=>
 some (-1):=tC
theorem F50E(s f):F50 s f=
(Fs s f).bind fun r=>
 some (decide (r≥0)):=tC
theorem FwE(no a1 a2 a3):Fw no a1 a2 a3=
 bif 0≤no then
 bif no<(a1.2.length:Int) then
(F50 (a1.2.getD (toNat no) (true,[])) (a2,(a3,()))).bind fun r=>
 some (!r)
else none
else none:=tC
theorem Fc4E(s f t7 t8):Fc4 s f t7 t8=
 bif t8<t7 then
 bif 0≤t8 then
 bif t8<(s.2.length:Int) then
(Fw (s.2.getD (toNat t8) 0) f.1 f.2.1 f.2.2.1).bind fun r=>
 bif r then
 some (.inl t8)
else 
(Fc4 s f t7 (i64.wrap (t8+1))).bind fun r=>some r
else none
else none
else 
 some (.inr ()):=tL F4K
theorem F4E(s f):F4 s f=
(Fc4 s f (s.2.length:Int) 0).bind fun r=>
 match r with
| .inl y=>
 some y
| .inr z=>
 some (-1):=tC
theorem F8dE(s del i j):F8d s del i j=
 bif j<(s.2.length:Int) then
 bif 0≤j then
 bif j<(s.2.length:Int) then
(Fw (s.2.getD (toNat j) 0) del.1 del.2.1 del.2.2.1).bind fun r=>
 bif !r then
 bif 0≤i then
 bif i<(s.2.length:Int) then
(F8d (s.1,(s.2.set (toNat i) (s.2.getD (toNat j) 0))) del (i64.wrap (i+1)) (i64.wrap (j+1))).bind fun r=>some r
else none
else none
else 
(F8d (s.1,s.2) del i (i64.wrap (j+1))).bind fun r=>some r
else none
else none
else 
 some ((s.1,s.2),i):=tL FrK
theorem FrE(s del):Fr s del=
(F4 (s.1,s.2) del).bind fun r=>
 bif (r==(-1))then
 some (s.1,s.2)
else 
(F8d (s.1,s.2) del r (i64.wrap (r+1))).bind fun r1=>
 bif 0≤r1.2 then
 bif r1.2≤(r1.1.2.length:Int) then
 bif 0≤r1.2 then
 bif r1.2≤((r1.1.2.take (toNat r1.2)++(List.replicate (r1.1.2.length-(toNat r1.2)) (0:Int)++r1.1.2.drop r1.1.2.length)).length :Int) then
 some (r1.1.1,(((r1.1.2.take (toNat r1.2)++(List.replicate (r1.1.2.length-(toNat r1.2)) (0:Int)++r1.1.2.drop r1.1.2.length)).take (toNat r1.2)).drop 0))
else none
else none
else none
else none:=tC
theorem F74E(to a1 a2):F74 to a1 a2=
 bif 0≤i64.wrap (a2+1) then
 bif i64.wrap (a2+1)<(a1.2.length:Int) then
(a1.2.getD (toNat (i64.wrap (a2+1))) none).bind fun y=>
(F5s y to).bind fun r=>
 some r
else none
else none:=tC
theorem Fb2E(s f t7 t8):Fb2 s f t7 t8=
 bif t8<t7 then
 bif 0≤t8 then
 bif t8<(s.2.length:Int) then
(F74 (s.2.getD (toNat t8) 0) f.1 f.2.1).bind fun r=>
 bif r then
 some (.inl t8)
else 
(Fb2 s f t7 (i64.wrap (t8+1))).bind fun r=>some r
else none
else none
else 
 some (.inr ()):=tL F3oK
theorem F3oE(s f):F3o s f=
(Fb2 s f (s.2.length:Int) 0).bind fun r=>
 match r with
| .inl y=>
 some y
| .inr z=>
 some (-1):=tC
theorem F81E(s f):F81 s f=
(F3o s f).bind fun r=>
 some (decide (r≥0)):=tC
theorem F68E(no a1 a2 a3):F68 no a1 a2 a3=
 bif 0≤no then
 bif no<(a1.2.length:Int) then
(F81 (a1.2.getD (toNat no) (true,[])) (a2,(a3,()))).bind fun r=>
 some (!r)
else none
else none:=tC
theorem FaxE(s f t7 t8):Fax s f t7 t8=
 bif t8<t7 then
 bif 0≤t8 then
 bif t8<(s.2.length:Int) then
(F68 (s.2.getD (toNat t8) 0) f.1 f.2.1 f.2.2.1).bind fun r=>
 bif r then
 some (.inl t8)
else 
(Fax s f t7 (i64.wrap (t8+1))).bind fun r=>some r
else none
else none
else 
 some (.inr ()):=tL F3wK
theorem F3wE(s f):F3w s f=
(Fax s f (s.2.length:Int) 0).bind fun r=>
 match r with
| .inl y=>
 some y
| .inr z=>
 some (-1):=tC
theorem F8fE(s del i j):F8f s del i j=
 bif j<(s.2.length:Int) then
 bif 0≤j then
 bif j<(s.2.length:Int) then
(F68 (s.2.getD (toNat j) 0) del.1 del.2.1 del.2.2.1).bind fun r=>
 bif !r then
 bif 0≤i then
 bif i<(s.2.length:Int) then
(F8f (s.1,(s.2.set (toNat i) (s.2.getD (toNat j) 0))) del (i64.wrap (i+1)) (i64.wrap (j+1))).bind fun r=>some r
else none
else none
else 
(F8f (s.1,s.2) del i (i64.wrap (j+1))).bind fun r=>some r
else none
else none
else 
 some ((s.1,s.2),i):=tL F2uK
theorem F2uE(s del):F2u s del=
(F3w (s.1,s.2) del).bind fun r=>
 bif (r==(-1))then
 some (s.1,s.2)
else 
(F8f (s.1,s.2) del r (i64.wrap (r+1))).bind fun r1=>
 bif 0≤r1.2 then
 bif r1.2≤(r1.1.2.length:Int) then
 bif 0≤r1.2 then
 bif r1.2≤((r1.1.2.take (toNat r1.2)++(List.replicate (r1.1.2.length-(toNat r1.2)) (0:Int)++r1.1.2.drop r1.1.2.length)).length :Int) then
 some (r1.1.1,(((r1.1.2.take (toNat r1.2)++(List.replicate (r1.1.2.length-(toNat r1.2)) (0:Int)++r1.1.2.drop r1.1.2.length)).take (toNat r1.2)).drop 0))
else none
else none
else none
else none:=tC
theorem F7pE(to a1 a2 a3):F7p to a1 a2 a3=
 bif 0≤i64.wrap (a3-1) then
 bif i64.wrap (a3-1)<(a2.2.length:Int) then
 bif 0≤a2.2.getD (toNat (i64.wrap (a3-1))) 0 then
 bif a2.2.getD (toNat (i64.wrap (a3-1))) 0<(a1.2.length:Int) then
(F5s (a1.2.getD (toNat (a2.2.getD (toNat (i64.wrap (a3-1))) 0)) (true,[])) to).bind fun r=>
 some r
else none
else none
else none
else none:=tC
theorem FbjE(s f t7 t8):Fbj s f t7 t8=
 bif t8<t7 then
 bif 0≤t8 then
 bif t8<(s.2.length:Int) then
(F7p (s.2.getD (toNat t8) 0) f.1 f.2.1 f.2.2.1).bind fun r=>
 bif r then
 some (.inl t8)
else 
(Fbj s f t7 (i64.wrap (t8+1))).bind fun r=>some r
else none
else none
else 
 some (.inr ()):=tL F3vK
theorem F3vE(s f):F3v s f=
(Fbj s f (s.2.length:Int) 0).bind fun r=>
 match r with
| .inl y=>
 some y
| .inr z=>
 some (-1):=tC
theorem FajE(along next last k_):Faj along next last k_=
 bif k_≥0 then
 bif 0≤k_ then
 bif k_<(along.2.length:Int) then
(F2u ((along.2.getD (toNat k_) (true,[])).1,(along.2.getD (toNat k_) (true,[])).2) (next,((along.1,(J1k along.2 (toNat k_))),(k_,())))).bind fun r=>
 bif 0≤k_ then
 bif k_<(along.2.length:Int) then
 bif (toNat k_==toNat k_)then
(Faj (along.1,(along.2.set (toNat k_) (r.1,r.2))) next last (i64.wrap (k_-1))).bind fun r=>some r
else none
else none
else none
else none
else none
else 
 some (along.1,along.2):=tL F6K
theorem FbpE(along next last out k_):Fbp along next last out k_=
 bif k_≤last then
 bif 0≤k_ then
 bif k_<(along.2.length:Int) then
(F3v (along.2.getD (toNat k_) (true,[])) (next,((out.1,out.2),(k_,())))).bind fun r=>
 bif 0≤k_ then
 bif k_<(along.2.length:Int) then
 bif 0≤r then
 bif r<(((along.2.getD (toNat k_) (true,[])).2).length :Int) then
 bif out.2.length+([(((along.2.getD (toNat k_) (true,[])).2).getD (toNat r) 0)]:List Int).length ≤lim then
(Fbp along next last ((out.1&&false),(out.2++[(((along.2.getD (toNat k_) (true,[])).2).getD (toNat r) 0)])) (i64.wrap (k_+1))).bind fun r=>some r
else none
else none
else none
else none
else none
else none
else none
else 
 some (out.1,out.2):=tL F6K
theorem F6E(p v path):F6 p v path=
(Ff p v path).bind fun r=>
(F3c p).bind fun r1=>
(F4v (r.1,r.2)).bind fun r2=>
 bif r2≥0 then
 some (true,[])
else 
(Faj (r.1,r.2) (r1.1,r1.2) (i64.wrap ((r.2.length:Int)-1)) (i64.wrap ((i64.wrap ((r.2.length:Int)-1))-1))).bind fun r3=>
 bif 0<(r3.2.length:Int) then
 bif 0<(((r3.2.getD 0 (true,[])).2).length :Int) then
(Fbp (r3.1,(r3.2.set 0 ((r3.2.getD 0 (true,[])).1,(r3.2.getD 0 (true,[])).2))) (r1.1,r1.2) (i64.wrap ((r.2.length:Int)-1)) (false,[(((r3.2.getD 0 (true,[])).2).getD 0 0)]) 1).bind fun r4=>
 some (r4.1,r4.2)
else none
else none:=tC
theorem F9vE(loop path heads at_):F9v loop path heads at_=
 bif at_<(path.2.length:Int) then
 bif 0≤at_ then
 bif at_<(path.2.length:Int) then
 bif (Jj (.int .i64) (.int .i64) heads.2 (path.2.getD (toNat at_) 0)).isSome then
 bif 0≤(Jj (.int .i64) (.int .i64) heads.2 (path.2.getD (toNat at_) 0)).getD 0 then
 bif (Jj (.int .i64) (.int .i64) heads.2 (path.2.getD (toNat at_) 0)).getD 0≤(path.2.length:Int) then
(F51 (path.1,((path.2.take (toNat ((Jj (.int .i64) (.int .i64) heads.2 (path.2.getD (toNat at_) 0)).getD 0))).drop 0))).bind fun r=>
 bif 0≤at_ then
 bif at_≤(path.2.length:Int) then
 bif 0≤(Jj (.int .i64) (.int .i64) heads.2 (path.2.getD (toNat at_) 0)).getD 0 then
 bif (Jj (.int .i64) (.int .i64) heads.2 (path.2.getD (toNat at_) 0)).getD 0≤at_ then
(F51 (path.1,((path.2.take (toNat at_)).drop (toNat ((Jj (.int .i64) (.int .i64) heads.2 (path.2.getD (toNat at_) 0)).getD 0))))).bind fun r1=>
 some (.inl ((false,heads.2),((r.1,r.2),((r1.1,r1.2),true))))
else none
else none
else none
else none
else none
else none
else 
 bif 0≤at_ then
 bif at_<(path.2.length:Int) then
(F9v loop path (false,(J2a (.int .i64) (.int .i64) heads.2 (path.2.getD (toNat at_) 0) at_)) (i64.wrap (at_+(loop.2.length:Int)))).bind fun r=>some r
else none
else none
else none
else none
else 
 some (.inr (false,heads.2)):=tL F3yK
theorem F3yE(p v stem loop):F3y p v stem loop=
(F60 p stem loop).bind fun r=>
(F6 p v (r.1,r.2)).bind fun r1=>
(F9v loop (r1.1,r1.2) (false,[]) (stem.2.length:Int)).bind fun r2=>
 match r2 with
| .inl y=>
 some ((y.2.1.1,y.2.1.2),((y.2.2.1.1,y.2.2.1.2),y.2.2.2))
| .inr z=>
 some ((true,[]),((true,[]),false)):=tC
theorem F78E(p v path):F78 p v path=
(Ff p v path).bind fun r=>
(F4v (r.1,r.2)).bind fun r1=>
 bif r1<1 then
 some ((true,[]),false)
else 
 bif 0≤i64.wrap (r1-1) then
 bif i64.wrap (r1-1)<(r.2.length:Int) then
 some (((r.2.getD (toNat (i64.wrap (r1-1))) (true,[])).1,(r.2.getD (toNat (i64.wrap (r1-1))) (true,[])).2),true)
else none
else none:=tC
theorem F92E(v t4 in_ t13 t14 t15):F92 v t4 in_ t13 t14 t15=
 bif t15<t14 then
 bif 0≤t15 then
 bif t15<(t13.2.length:Int) then
 bif 0≤t13.2.getD (toNat t15) 0 then
 bif t13.2.getD (toNat t15) 0<(in_.2.length:Int) then
(F92 v t4 (in_.1,(in_.2.set (toNat (t13.2.getD (toNat t15) 0)) 1)) t13 t14 (i64.wrap (t15+1))).bind fun r=>some r
else none
else none
else none
else none
else 
 some (in_.1,in_.2):=tL F49K
theorem F49E(v some_):F49 v some_=
 bif 0≤(v.2.length:Int) then
 bif (v.2.length:Int)≤lim then
 bif (v.2.length:Int)≤(v.2.length:Int) then
 bif (v.2.length:Int)≤lim then
(F92 v (true,[]) (false,(List.replicate (toNat (v.2.length:Int)) (0:Int))) some_ (some_.2.length:Int) 0).bind fun r=>
(F3h v (r.1,r.2)).bind fun r1=>
 some (r1.1,r1.2)
else none
else none
else none
else none:=tC
theorem F7rE(p v stem loop):F7r p v stem loop=
(F60 p stem loop).bind fun r=>
(F78 p v (r.1,r.2)).bind fun r1=>
 bif !r1.2 then
 some ((true,[]),false)
else 
(F49 v (r1.1.1,r1.1.2)).bind fun r2=>
 some ((r2.1,r2.2),true):=tC
theorem F97E(budget q t6 out_0 out_1 out_2 out_3 out_4):F97 budget q t6 out_0 out_1 out_2 out_3 out_4=
(F1b q (out_4.1,out_4.2)).bind fun r=>
 bif !r.2.2 then
 some (1,((out_1.1,out_1.2),((out_2.1,out_2.2),(out_3,(out_4.1,out_4.2)))))
else 
(F3y q.1 (out_4.1,out_4.2) (r.1.1,r.1.2) (r.2.1.1,r.2.1.2)).bind fun r1=>
 bif r1.2.2 then
 some (2,((r1.1.1,r1.1.2),((r1.2.1.1,r1.2.1.2),(out_3,(out_4.1,out_4.2)))))
else 
 bif (out_3==budget)then
 some (3,((out_1.1,out_1.2),((out_2.1,out_2.2),(out_3,(out_4.1,out_4.2)))))
else 
(F7r q.1 (out_4.1,out_4.2) (r.1.1,r.1.2) (r.2.1.1,r.2.1.2)).bind fun r2=>
(F97 budget q t6 out_0 (out_1.1,out_1.2) (out_2.1,out_2.2) (i64.wrap (out_3+1)) (r2.1.1,r2.1.2)).bind fun r=>some r:=tL F3tK
theorem F3tE(q preds budget):F3t q preds budget=
(F1v (false,[q.2.1,preds])).bind fun r=>
(F4h q.1 (r.1,r.2)).bind fun r1=>
(F97 budget q (0,((true,[]),((true,[]),(0,(true,[]))))) 0 (true,[]) (true,[]) 0 (r1.1,r1.2)).bind fun r2=>
 some (r2.1,((r2.2.1.1,r2.2.1.2),((r2.2.2.1.1,r2.2.2.1.2),(r2.2.2.2.1,(r2.2.2.2.2.1,r2.2.2.2.2.2))))):=tC
theorem F5yE(q preds budget):F5y q preds budget=
(F53 q).bind fun r=>
 bif !r then
 some (0,((true,[]),((true,[]),(0,((true,[]),false)))))
else 
(F4t q.1 preds 0).bind fun r1=>
 bif !r1 then
 some (0,((true,[]),((true,[]),(0,((true,[]),false)))))
else 
(F6q budget).bind fun r2=>
 bif !r2 then
 some (0,((true,[]),((true,[]),(0,((true,[]),false)))))
else 
(F3t q preds budget).bind fun r3=>
 some (r3.1,((r3.2.1.1,r3.2.1.2),((r3.2.2.1.1,r3.2.2.1.2),(r3.2.2.2.1,((r3.2.2.2.2.1,r3.2.2.2.2.2),true))))):=tC
theorem Fb9E(a b i):Fb9 a b i=
 bif i<(a.2.length:Int) then
 bif 0≤i then
 bif i<(a.2.length:Int) then
 bif 0≤i then
 bif i<(b.2.length:Int) then
 bif (a.2.getD (toNat i) 0 !=b.2.getD (toNat i) 0)then
 some (.inl false)
else 
(Fb9 a b (i64.wrap (i+1))).bind fun r=>some r
else none
else none
else none
else none
else 
 some (.inr ()):=tL F2cK
theorem F2cE(a b):F2c a b=
 bif ((a.2.length:Int) !=(b.2.length:Int))then
 some false
else 
(Fb9 a b 0).bind fun r=>
 match r with
| .inl y=>
 some y
| .inr z=>
 some true:=tC
theorem F76E(a b):F76 a b=
(F2c a b).bind fun r=>
 bif !r then
 some false
else 
 some true:=tC
theorem F5rE(a b):F5r a b=
 bif (a.1 !=b.1)then
 some false
else 
(F2c a.2.1 b.2.1).bind fun r=>
 bif !r then
 some false
else 
(F2c a.2.2.1 b.2.2.1).bind fun r1=>
 bif !r1 then
 some false
else 
 bif (a.2.2.2.1 !=b.2.2.2.1)then
 some false
else 
(F76 a.2.2.2.2 b.2.2.2.2).bind fun r2=>
 bif !r2 then
 some false
else 
 some true:=tC
theorem FcE(a b):Fc a b=
 bif (a.1 !=b.1)then
 some false
else 
 bif (a.2 !=b.2)then
 some false
else 
 some true:=tC
theorem F8yE(a b i):F8y a b i=
 bif i<(a.2.length:Int) then
 bif 0≤i then
 bif i<(a.2.length:Int) then
 bif 0≤i then
 bif i<(b.2.length:Int) then
(Fc (a.2.getD (toNat i) (0,0)) (b.2.getD (toNat i) (0,0))).bind fun r=>
 bif !r then
 some (.inl false)
else 
(F8y a b (i64.wrap (i+1))).bind fun r=>some r
else none
else none
else none
else none
else 
 some (.inr ()):=tL FiK
theorem FiE(a b):Fi a b=
 bif ((a.2.length:Int) !=(b.2.length:Int))then
 some false
else 
(F8y a b 0).bind fun r=>
 match r with
| .inl y=>
 some y
| .inr z=>
 some true:=tC
theorem F1pE(a b):F1p a b=
 bif (a.1 !=b.1)then
 some false
else 
(Fi a.2 b.2).bind fun r=>
 bif !r then
 some false
else 
 some true:=tC
theorem FbtE(a b i):Fbt a b i=
 bif i<(a.2.length:Int) then
 bif 0≤i then
 bif i<(a.2.length:Int) then
 bif 0≤i then
 bif i<(b.2.length:Int) then
(F1p (a.2.getD (toNat i) (0,(true,[]))) (b.2.getD (toNat i) (0,(true,[])))).bind fun r=>
 bif !r then
 some (.inl false)
else 
(Fbt a b (i64.wrap (i+1))).bind fun r=>some r
else none
else none
else none
else none
else 
 some (.inr ()):=tL F4nK
theorem F4nE(a b):F4n a b=
 bif ((a.2.length:Int) !=(b.2.length:Int))then
 some false
else 
(Fbt a b 0).bind fun r=>
 match r with
| .inl y=>
 some y
| .inr z=>
 some true:=tC
theorem F1kE(a b):F1k a b=
(Fi a.1 b.1).bind fun r=>
 bif !r then
 some false
else 
(F4n a.2 b.2).bind fun r1=>
 bif !r1 then
 some false
else 
 some true:=tC
theorem Fc3E(a b i):Fc3 a b i=
 bif i<(a.2.length:Int) then
 bif 0≤i then
 bif i<(a.2.length:Int) then
 bif 0≤i then
 bif i<(b.2.length:Int) then
(F1k (a.2.getD (toNat i) ((true,[]),(true,[]))) (b.2.getD (toNat i) ((true,[]),(true,[])))).bind fun r=>
 bif !r then
 some (.inl false)
else 
(Fc3 a b (i64.wrap (i+1))).bind fun r=>some r
else none
else none
else none
else none
else 
 some (.inr ()):=tL F46K
theorem F46E(a b):F46 a b=
 bif ((a.2.length:Int) !=(b.2.length:Int))then
 some false
else 
(Fc3 a b 0).bind fun r=>
 match r with
| .inl y=>
 some y
| .inr z=>
 some true:=tC
theorem F87E(a b):F87 a b=
 bif (a.1 !=b.1)then
 some false
else 
 bif (a.2.1 !=b.2.1)then
 some false
else 
(Fi a.2.2.1 b.2.2.1).bind fun r=>
 bif !r then
 some false
else 
(F46 a.2.2.2 b.2.2.2).bind fun r1=>
 bif !r1 then
 some false
else 
 some true:=tC
theorem F9sE(a b i):F9s a b i=
 bif i<(a.2.length:Int) then
 bif 0≤i then
 bif i<(a.2.length:Int) then
 bif 0≤i then
 bif i<(b.2.length:Int) then
(Fi (a.2.getD (toNat i) (true,[])) (b.2.getD (toNat i) (true,[]))).bind fun r=>
 bif !r then
 some (.inl false)
else 
(F9s a b (i64.wrap (i+1))).bind fun r=>some r
else none
else none
else none
else none
else 
 some (.inr ()):=tL F3aK
theorem F3aE(a b):F3a a b=
 bif ((a.2.length:Int) !=(b.2.length:Int))then
 some false
else 
(F9s a b 0).bind fun r=>
 match r with
| .inl y=>
 some y
| .inr z=>
 some true:=tC
theorem F1rE(a b):F1r a b=
 bif (a.1 !=b.1)then
 some false
else 
 bif (a.2 !=b.2)then
 some false
else 
 some true:=tC
theorem Fa7E(a b i):Fa7 a b i=
 bif i<(a.2.length:Int) then
 bif 0≤i then
 bif i<(a.2.length:Int) then
 bif 0≤i then
 bif i<(b.2.length:Int) then
(F1r (a.2.getD (toNat i) (0,0)) (b.2.getD (toNat i) (0,0))).bind fun r=>
 bif !r then
 some (.inl false)
else 
(Fa7 a b (i64.wrap (i+1))).bind fun r=>some r
else none
else none
else none
else none
else 
 some (.inr ()):=tL F3pK
theorem F3pE(a b):F3p a b=
 bif ((a.2.length:Int) !=(b.2.length:Int))then
 some false
else 
(Fa7 a b 0).bind fun r=>
 match r with
| .inl y=>
 some y
| .inr z=>
 some true:=tC
theorem F8xE(a b):F8x a b=
(F87 a.1 b.1).bind fun r=>
 bif !r then
 some false
else 
(F3a a.2.1 b.2.1).bind fun r1=>
 bif !r1 then
 some false
else 
(F3p a.2.2 b.2.2).bind fun r2=>
 bif !r2 then
 some false
else 
 some true:=tC
theorem FbqE(a k_ i):Fbq a k_ i=
 bif i<(a.2.length:Int) then
 bif 0≤i then
 bif i<(a.2.length:Int) then
 bif 0≤i then
 bif i<((a.2.set (toNat i) (k_,(a.2.getD (toNat i) (0,0)).2)).length :Int) then
(Fbq (a.1,((a.2.set (toNat i) (k_,(a.2.getD (toNat i) (0,0)).2)).set (toNat i) (((a.2.set (toNat i) (k_,(a.2.getD (toNat i) (0,0)).2)).getD (toNat i) (0,0)).1,u64.wrap (i64.wrap (k_+1))))) (i64.wrap ((i64.wrap (k_+1))+1)) (i64.wrap (i+1))).bind fun r=>some r
else none
else none
else none
else none
else 
 some ((a.1,a.2),k_):=tL FjK
theorem FjE(a k_):Fj a k_=
(Fbq (a.1,a.2) k_ 0).bind fun r=>
 some ((r.1.1,r.1.2),r.2):=tC
theorem FbkE(a k_ i):Fbk a k_ i=
 bif i<(a.2.length:Int) then
 bif 0≤i then
 bif i<(a.2.length:Int) then
 bif 0≤i then
 bif i<((a.2.set (toNat i) (k_,(a.2.getD (toNat i) (0,(true,[]))).2)).length :Int) then
(Fj ((((a.2.set (toNat i) (k_,(a.2.getD (toNat i) (0,(true,[]))).2)).getD (toNat i) (0,(true,[]))).2).1,(((a.2.set (toNat i) (k_,(a.2.getD (toNat i) (0,(true,[]))).2)).getD (toNat i) (0,(true,[]))).2).2) (i64.wrap (k_+1))).bind fun r=>
(Fbk (a.1,((a.2.set (toNat i) (k_,(a.2.getD (toNat i) (0,(true,[]))).2)).set (toNat i) (((a.2.set (toNat i) (k_,(a.2.getD (toNat i) (0,(true,[]))).2)).getD (toNat i) (0,(true,[]))).1,(r.1.1,r.1.2)))) r.2 (i64.wrap (i+1))).bind fun r=>some r
else none
else none
else none
else none
else 
 some ((a.1,a.2),k_):=tL F3zK
theorem F3zE(a k_):F3z a k_=
(Fbk (a.1,a.2) k_ 0).bind fun r=>
 some ((r.1.1,r.1.2),r.2):=tC
theorem FcpE(a k_ i):Fcp a k_ i=
 bif i<(a.2.length:Int) then
 bif 0≤i then
 bif i<(a.2.length:Int) then
(Fj (((a.2.getD (toNat i) ((true,[]),(true,[]))).1).1,((a.2.getD (toNat i) ((true,[]),(true,[]))).1).2) k_).bind fun r=>
 bif 0≤i then
 bif i<(a.2.length:Int) then
(F3z ((((a.2.set (toNat i) ((r.1.1,r.1.2),(a.2.getD (toNat i) ((true,[]),(true,[]))).2)).getD (toNat i) ((true,[]),(true,[]))).2).1,(((a.2.set (toNat i) ((r.1.1,r.1.2),(a.2.getD (toNat i) ((true,[]),(true,[]))).2)).getD (toNat i) ((true,[]),(true,[]))).2).2) r.2).bind fun r1=>
(Fcp (a.1,((a.2.set (toNat i) ((r.1.1,r.1.2),(a.2.getD (toNat i) ((true,[]),(true,[]))).2)).set (toNat i) (((a.2.set (toNat i) ((r.1.1,r.1.2),(a.2.getD (toNat i) ((true,[]),(true,[]))).2)).getD (toNat i) ((true,[]),(true,[]))).1,(r1.1.1,r1.1.2)))) r1.2 (i64.wrap (i+1))).bind fun r=>some r
else none
else none
else none
else none
else 
 some ((a.1,a.2),k_):=tL F44K
theorem F44E(a k_):F44 a k_=
(Fcp (a.1,a.2) k_ 0).bind fun r=>
 some ((r.1.1,r.1.2),r.2):=tC
theorem F8iE(a0_0 a0_1 a0_2 a0_3 k_):F8i a0_0 a0_1 a0_2 a0_3 k_=
(Fj (a0_2.1,a0_2.2) k_).bind fun r=>
(F44 (a0_3.1,a0_3.2) r.2).bind fun r1=>
 some ((r.1.1,r.1.2),((r1.1.1,r1.1.2),r1.2)):=tC
theorem F9mE(a k_ i):F9m a k_ i=
 bif i<(a.2.length:Int) then
 bif 0≤i then
 bif i<(a.2.length:Int) then
(Fj ((a.2.getD (toNat i) (true,[])).1,(a.2.getD (toNat i) (true,[])).2) k_).bind fun r=>
(F9m (a.1,(a.2.set (toNat i) (r.1.1,r.1.2))) r.2 (i64.wrap (i+1))).bind fun r=>some r
else none
else none
else 
 some ((a.1,a.2),k_):=tL F3eK
theorem F3eE(a k_):F3e a k_=
(F9m (a.1,a.2) k_ 0).bind fun r=>
 some ((r.1.1,r.1.2),r.2):=tC
theorem F90E(a k_ i):F90 a k_ i=
 bif i<(a.2.length:Int) then
 bif 0≤i then
 bif i<(a.2.length:Int) then
 bif 0≤i then
 bif i<((a.2.set (toNat i) (k_,(a.2.getD (toNat i) (0,0)).2)).length :Int) then
(F90 (a.1,((a.2.set (toNat i) (k_,(a.2.getD (toNat i) (0,0)).2)).set (toNat i) (((a.2.set (toNat i) (k_,(a.2.getD (toNat i) (0,0)).2)).getD (toNat i) (0,0)).1,i64.wrap (k_+1)))) (i64.wrap ((i64.wrap (k_+1))+1)) (i64.wrap (i+1))).bind fun r=>some r
else none
else none
else none
else none
else 
 some ((a.1,a.2),k_):=tL F4pK
theorem F4pE(a k_):F4p a k_=
(F90 (a.1,a.2) k_ 0).bind fun r=>
 some ((r.1.1,r.1.2),r.2):=tC
theorem F7aE(a0_0 a0_1 a0_2 a0_3 a0_4 a0_5 k_):F7a a0_0 a0_1 a0_2 a0_3 a0_4 a0_5 k_=
(F8i a0_0 a0_1 (a0_2.1,a0_2.2) (a0_3.1,a0_3.2) k_).bind fun r=>
(F3e (a0_4.1,a0_4.2) r.2.2).bind fun r1=>
(F4p (a0_5.1,a0_5.2) r1.2).bind fun r2=>
 some ((r.1.1,r.1.2),((r.2.1.1,r.2.1.2),((r1.1.1,r1.1.2),((r2.1.1,r2.1.2),r2.2)))):=tC
theorem FazE(a k_ i):Faz a k_ i=
 bif i<(a.2.length:Int) then
 bif 0≤i then
 bif i<(a.2.length:Int) then
(Faz (a.1,(a.2.set (toNat i) k_)) (i64.wrap (k_+1)) (i64.wrap (i+1))).bind fun r=>some r
else none
else none
else 
 some ((a.1,a.2),k_):=tL F28K
theorem F28E(a k_):F28 a k_=
(Faz (a.1,a.2) k_ 0).bind fun r=>
 some ((r.1.1,r.1.2),r.2):=tC
theorem F6rE(a k_):F6r a k_=
(F28 (a.1,a.2) k_).bind fun r=>
 some ((r.1.1,r.1.2),r.2):=tC
theorem F73E(a0_0 a0_1 a0_2 a0_3 a0_4 k_):F73 a0_0 a0_1 a0_2 a0_3 a0_4 k_=
(F28 (a0_1.1,a0_1.2) k_).bind fun r=>
(F28 (a0_2.1,a0_2.2) r.2).bind fun r1=>
(F6r (a0_4.1,a0_4.2) r1.2).bind fun r2=>
 some ((r.1.1,r.1.2),((r1.1.1,r1.1.2),((r2.1.1,r2.1.2),r2.2))):=tC
theorem Fa2E(a k_ i):Fa2 a k_ i=
 bif i<(a.2.length:Int) then
 bif 0≤i then
 bif i<(a.2.length:Int) then
 bif (a.2.getD (toNat i) 0 !=k_)then
 some (.inl (-1))
else 
(Fa2 a (i64.wrap (k_+1)) (i64.wrap (i+1))).bind fun r=>some r
else none
else none
else 
 some (.inr k_):=tL F2aK
theorem F2aE(a k_):F2a a k_=
(Fa2 a k_ 0).bind fun r=>
 match r with
| .inl y=>
 some y
| .inr z=>
 some z:=tC
theorem F7wE(a k_):F7w a k_=
(F2a a k_).bind fun r=>
 bif r<0 then
 some (-1)
else 
 some r:=tC
theorem F5zE(a k_):F5z a k_=
(F2a a.2.1 k_).bind fun r=>
 bif r<0 then
 some (-1)
else 
(F2a a.2.2.1 r).bind fun r1=>
 bif r1<0 then
 some (-1)
else 
(F7w a.2.2.2.2 r1).bind fun r2=>
 bif r2<0 then
 some (-1)
else 
 some r2:=tC
theorem FcjE(aQ aPreds aBudget):Fcj aQ aPreds aBudget=
(F6w aQ 1048576).bind fun r=>
 bif r<0 then
 some true
else 
(F2v aPreds r).bind fun r1=>
 bif r1<0 then
 some true
else 
(F5d aQ).bind fun r2=>
(F21 aPreds).bind fun r3=>
(F34 ((r2.1,(r2.2.1,((r2.2.2.1.1,r2.2.2.1.2),(r2.2.2.2.1.1,r2.2.2.2.1.2)))),((r2.2.2.2.2.1.1,r2.2.2.2.2.1.2),(r2.2.2.2.2.2.1,r2.2.2.2.2.2.2))) (r3.1,r3.2) aBudget).bind fun r4=>
(F5d aQ).bind fun r5=>
(F21 aPreds).bind fun r6=>
(F5y ((r5.1,(r5.2.1,((r5.2.2.1.1,r5.2.2.1.2),(r5.2.2.2.1.1,r5.2.2.2.1.2)))),((r5.2.2.2.2.1.1,r5.2.2.2.2.1.2),(r5.2.2.2.2.2.1,r5.2.2.2.2.2.2))) (r6.1,r6.2) aBudget).bind fun r7=>
(F5r (r7.1,((r7.2.1.1,r7.2.1.2),((r7.2.2.1.1,r7.2.2.1.2),(r7.2.2.2.1,(r7.2.2.2.2.1.1,r7.2.2.2.2.1.2))))) (r4.1,((r4.2.1.1,r4.2.1.2),((r4.2.2.1.1,r4.2.2.1.2),(r4.2.2.2.1,(r4.2.2.2.2.1.1,r4.2.2.2.2.1.2)))))).bind fun r8=>
 bif !r8 then
 some false
else 
 bif !(r7.2.2.2.2.2==r4.2.2.2.2.2)then
 some false
else 
(F5d aQ).bind fun r9=>
(F8x ((r5.1,(r5.2.1,((r5.2.2.1.1,r5.2.2.1.2),(r5.2.2.2.1.1,r5.2.2.2.1.2)))),((r5.2.2.2.2.1.1,r5.2.2.2.2.1.2),(r5.2.2.2.2.2.1,r5.2.2.2.2.2.2))) ((r9.1,(r9.2.1,((r9.2.2.1.1,r9.2.2.1.2),(r9.2.2.2.1.1,r9.2.2.2.1.2)))),((r9.2.2.2.2.1.1,r9.2.2.2.2.1.2),(r9.2.2.2.2.2.1,r9.2.2.2.2.2.2)))).bind fun r10=>
 bif !r10 then
 some false
else 
(F21 aPreds).bind fun r11=>
(F3a (r6.1,r6.2) (r11.1,r11.2)).bind fun r12=>
 bif !r12 then
 some false
else 
(F7a r5.1 r5.2.1 (r5.2.2.1.1,r5.2.2.1.2) (r5.2.2.2.1.1,r5.2.2.2.1.2) (r5.2.2.2.2.1.1,r5.2.2.2.2.1.2) (r5.2.2.2.2.2.1,r5.2.2.2.2.2.2) 1).bind fun r13=>
(F3e (r6.1,r6.2) r13.2.2.2.2).bind fun r14=>
 bif r14.2<0 then
 some false
else 
(F5r (r7.1,((r7.2.1.1,r7.2.1.2),((r7.2.2.1.1,r7.2.2.1.2),(r7.2.2.2.1,(r7.2.2.2.2.1.1,r7.2.2.2.2.1.2))))) (r4.1,((r4.2.1.1,r4.2.1.2),((r4.2.2.1.1,r4.2.2.1.2),(r4.2.2.2.1,(r4.2.2.2.2.1.1,r4.2.2.2.2.1.2)))))).bind fun r15=>
 bif !r15 then
 some false
else 
 bif !(r7.2.2.2.2.2==r4.2.2.2.2.2)then
 some false
else 
(F73 r7.1 (r7.2.1.1,r7.2.1.2) (r7.2.2.1.1,r7.2.2.1.2) r7.2.2.2.1 (r7.2.2.2.2.1.1,r7.2.2.2.2.1.2) 1).bind fun r16=>
(F5z (r7.1,((r16.1.1,r16.1.2),((r16.2.1.1,r16.2.1.2),(r7.2.2.2.1,(r16.2.2.1.1,r16.2.2.1.2))))) 1).bind fun r17=>
 bif r17<0 then
 some false
else 
 bif (r17 !=r16.2.2.2)then
 some false
else 
(F5d aQ).bind fun r18=>
(F21 aPreds).bind fun r19=>
(F5y ((r18.1,(r18.2.1,((r18.2.2.1.1,r18.2.2.1.2),(r18.2.2.2.1.1,r18.2.2.2.1.2)))),((r18.2.2.2.2.1.1,r18.2.2.2.2.1.2),(r18.2.2.2.2.2.1,r18.2.2.2.2.2.2))) (r19.1,r19.2) aBudget).bind fun r20=>
(F5r (r20.1,((r20.2.1.1,r20.2.1.2),((r20.2.2.1.1,r20.2.2.1.2),(r20.2.2.2.1,(r20.2.2.2.2.1.1,r20.2.2.2.2.1.2))))) (r4.1,((r4.2.1.1,r4.2.1.2),((r4.2.2.1.1,r4.2.2.1.2),(r4.2.2.2.1,(r4.2.2.2.2.1.1,r4.2.2.2.2.1.2)))))).bind fun r21=>
 bif !r21 then
 some false
else 
 bif !(r20.2.2.2.2.2==r4.2.2.2.2.2)then
 some false
else 
(F5z (r7.1,((r16.1.1,r16.1.2),((r16.2.1.1,r16.2.1.2),(r7.2.2.2.1,(r16.2.2.1.1,r16.2.2.1.2))))) 1).bind fun r22=>
 bif r22<0 then
 some false
else 
 bif (r22 !=r16.2.2.2)then
 some false
else 
 some true:=tC
theorem fA{h:FnH}(a:Tryz.prog.funcs[h.fid]? =some h.f)(b:(h.f.body.isSome&& !(h.f.name== "runtime.NumGoroutine"))=true:=by kernel_rfl):Tryz.prog.funcs[h.fid]? =some h.f∧h.f.body.isSome=true∧(h.f.name== "runtime.NumGoroutine")=false:=by
  rw[Bool.and_eq_true]at b
  exact⟨a,b.1,by simpa using b.2⟩
theorem fit:Fit Tryz.prog H:=Jgx (exts:=extsL) (tys:=tysL) (cells:=cellsL) (keys:=keysL) (mtys:=mtysL) rfl rfl rfl rfl rfl (by kernel_rfl) (by kernel_rfl) (by kernel_rfl) ⟨fA Tryz.func59,fA Tryz.func264,fA Tryz.func206,fA Tryz.func137,fA Tryz.func77,fA Tryz.func31,fA Tryz.func22,fA Tryz.func32,fA Tryz.func6,fA Tryz.func125,fA Tryz.func69,fA Tryz.func269,fA Tryz.func212,fA Tryz.func146,fA Tryz.func87,fA Tryz.func39,fA Tryz.func24,fA Tryz.func88,fA Tryz.func40,fA Tryz.func8,fA Tryz.func62,fA Tryz.func247,fA Tryz.func207,fA Tryz.func208,fA Tryz.func280,fA Tryz.func248,fA Tryz.func194,fA Tryz.func119,fA Tryz.func244,fA Tryz.func191,fA Tryz.func117,fA Tryz.func245,fA Tryz.func246,fA Tryz.func192,fA Tryz.func141,fA Tryz.func193,fA Tryz.func118,fA Tryz.func60,fA Tryz.func61,fA Tryz.func79,fA Tryz.func81,fA Tryz.func210,fA Tryz.func289,fA Tryz.func265,fA Tryz.func266,fA Tryz.func267,fA Tryz.func268,fA Tryz.func209,fA Tryz.func139,fA Tryz.func80,fA Tryz.func35,fA Tryz.func34,fA Tryz.func124,fA Tryz.func67,fA Tryz.func121,fA Tryz.func120,fA Tryz.func63,fA Tryz.func225,fA Tryz.func224,fA Tryz.func211,fA Tryz.func277,fA Tryz.func226,fA Tryz.func159,fA Tryz.func104,fA Tryz.func105,fA Tryz.func86,fA Tryz.func160,fA Tryz.func140,fA Tryz.func143,fA Tryz.func142,fA Tryz.func83,fA Tryz.func123,fA Tryz.func165,fA Tryz.func161,fA Tryz.func82,fA Tryz.func162,fA Tryz.func164,fA Tryz.func163,fA Tryz.func106,fA Tryz.func166,fA Tryz.func228,fA Tryz.func227,fA Tryz.func169,fA Tryz.func170,fA Tryz.func167,fA Tryz.func168,fA Tryz.func107,fA Tryz.func108,fA Tryz.func53,fA Tryz.func66,fA Tryz.func65,fA Tryz.func68,fA Tryz.func195,fA Tryz.func122,fA Tryz.func64,fA Tryz.func23,fA Tryz.func249,fA Tryz.func250,fA Tryz.func282,fA Tryz.func94,fA Tryz.func290,fA Tryz.func283,fA Tryz.func284,fA Tryz.func147,fA Tryz.func90,fA Tryz.func255,fA Tryz.func256,fA Tryz.func199,fA Tryz.func130,fA Tryz.func253,fA Tryz.func252,fA Tryz.func281,fA Tryz.func251,fA Tryz.func196,fA Tryz.func126,fA Tryz.func98,fA Tryz.func254,fA Tryz.func197,fA Tryz.func187,fA Tryz.func233,fA Tryz.func219,fA Tryz.func220,fA Tryz.func189,fA Tryz.func127,fA Tryz.func129,fA Tryz.func198,fA Tryz.func128,fA Tryz.func70,fA Tryz.func131,fA Tryz.func198,fA Tryz.func128,fA Tryz.func71,fA Tryz.func72,fA Tryz.func201,fA Tryz.func133,fA Tryz.func89,fA Tryz.func44,fA Tryz.func270,fA Tryz.func271,fA Tryz.func213,fA Tryz.func214,fA Tryz.func215,fA Tryz.func216,fA Tryz.func148,fA Tryz.func93,fA Tryz.func285,fA Tryz.func257,fA Tryz.func171,fA Tryz.func109,fA Tryz.func258,fA Tryz.func200,fA Tryz.func132,fA Tryz.func173,fA Tryz.func111,fA Tryz.func115,fA Tryz.func150,fA Tryz.func43,fA Tryz.func97,fA Tryz.func174,fA Tryz.func231,fA Tryz.func272,fA Tryz.func218,fA Tryz.func217,fA Tryz.func149,fA Tryz.func238,fA Tryz.func180,fA Tryz.func175,fA Tryz.func236,fA Tryz.func232,fA Tryz.func176,fA Tryz.func235,fA Tryz.func234,fA Tryz.func177,fA Tryz.func178,fA Tryz.func181,fA Tryz.func278,fA Tryz.func234,fA Tryz.func237,fA Tryz.func179,fA Tryz.func112,fA Tryz.func230,fA Tryz.func172,fA Tryz.func110,fA Tryz.func239,fA Tryz.func279,fA Tryz.func243,fA Tryz.func184,fA Tryz.func240,fA Tryz.func182,fA Tryz.func241,fA Tryz.func242,fA Tryz.func147,fA Tryz.func183,fA Tryz.func185,fA Tryz.func188,fA Tryz.func147,fA Tryz.func186,fA Tryz.func113,fA Tryz.func114,fA Tryz.func56,fA Tryz.func92,fA Tryz.func42,fA Tryz.func203,fA Tryz.func95,fA Tryz.func286,fA Tryz.func147,fA Tryz.func186,fA Tryz.func259,fA Tryz.func288,fA Tryz.func287,fA Tryz.func260,fA Tryz.func96,fA Tryz.func262,fA Tryz.func147,fA Tryz.func90,fA Tryz.func261,fA Tryz.func147,fA Tryz.func186,fA Tryz.func262,fA Tryz.func147,fA Tryz.func90,fA Tryz.func261,fA Tryz.func147,fA Tryz.func186,fA Tryz.func263,fA Tryz.func147,fA Tryz.func202,fA Tryz.func134,fA Tryz.func204,fA Tryz.func205,fA Tryz.func135,fA Tryz.func73,fA Tryz.func25,fA Tryz.func12,fA Tryz.func17,fA Tryz.func26,fA Tryz.func136,fA Tryz.func74,fA Tryz.func276,fA Tryz.func223,fA Tryz.func158,fA Tryz.func101,fA Tryz.func48,fA Tryz.func27,fA Tryz.func102,fA Tryz.func49,fA Tryz.func11,fA Tryz.func75,fA Tryz.func190,fA Tryz.func116,fA Tryz.func57,fA Tryz.func28,fA Tryz.func58,fA Tryz.func18,fA Tryz.func20,fA Tryz.func19,fA Tryz.func29,fA Tryz.func21,fA Tryz.func76,fA Tryz.func30,fA Tryz.func5,trivial⟩ trivial (by kernel_rfl)
theorem nats:Jdl Tryz.prog H:=Jh1 (keys:=keysL) rfl (by
  iterate 120 refine⟨.plain rfl,?_⟩
  refine⟨.sort Tryz.sortOk,?_⟩
  refine⟨.compact (by decide) Tryz.compactOk,?_⟩
  iterate 139 refine⟨.plain rfl,?_⟩
  exact trivial)
end Go.Proofs.YtedfhboklcfanaaGreat.R
