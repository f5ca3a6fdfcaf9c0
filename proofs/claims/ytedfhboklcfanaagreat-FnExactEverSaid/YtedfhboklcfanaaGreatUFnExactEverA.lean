/- The plain law of FnExactEver:what the two functions compute is the same. -/
import Derived.Test.YtedfhboklcfanaaGreatEFnExactEver
import Derived.Laws.MathBits
set_option linter.all false
namespace Go.Proofs.YtedfhboklcfanaaGreat.R
open Go.Rf
open Go.IntKind (i64 u64)
open Int (toNat)
theorem Qhz(n a:Nat)(hn:n≤4611686018427387904)(ha:a<2^64)(d:Nat):∀i:Nat,i+d=n→
  F95 (n:Int) (a:Int) ((a%2^(min i 64):Nat):Int) (i:Int)=some ((a%2^(min n 64):Nat):Int):=by
 induction d with
 |zero=>
  intro i hi
  obtain rfl:i=n:=by omega
  rw[F95E,gFo]
 |succ d ih=>
  intro i hi;have e1:u64.wrap (i:Int)=(i:Int):=wru (by omega);rw[F95E,gTo,e1,gFo,up1o i,J1]
  by_cases h64:i<64
  ·have hlt:a%2^i<2^64:=Nat.lt_of_le_of_lt (Nat.mod_le _ _) ha;have hp:(2:Nat)^i<2^64:=Nat.pow_lt_pow_right (by decide) h64;rw[Jgj i h64,J8e a (2^i) ha hp,show min i 64=i by omega,J93 (a%2^i) (a&&&2^i) hlt (Nat.and_lt_two_pow _ hp),Jff];have:=ih (i+1) (by omega);rw[show min (i+1) 64=i+1 by omega]at this;exact this
  ·have e3:bShl .u64 1 (i:Int)=0:=by
    unfold bShl;rw[show min ((i:Int)).toNat (u64.bits)=64 by simp only[K3,IntKind.bits];omega,J51];decide
   have hlt:a%2^(min i 64)<2^64:=Nat.lt_of_le_of_lt (Nat.mod_le _ _) ha;rw[e3,show(0:Int)=((0:Nat):Int)from rfl,J8e a 0 ha (by decide),J93 _ (a&&&0) hlt (by simp)];rw[show a%2^(min i 64)|||a&&&0=a%2^(min (i+1) 64) by simp;rw[show min i 64=min (i+1) 64 by omega]];exact ih (i+1) (by omega)
theorem Qfb(n a:Nat)(hn:n≤4611686018427387904)(ha:a<2^64):F1a (n:Int) (a:Int)=some ((a%2^(min n 64):Nat):Int):=by
 have:=Qhz n a hn ha n 0 (by omega);rw[F1aE,J1];simpa[Nat.mod_one]using this
def top(wide:Int):Int:=2^wide.toNat-1
theorem Q5u{wide:Int}(h:1≤wide∧wide≤64):1≤top wide∧top wide≤18446744073709551615:=by
 obtain⟨n,rfl⟩:=Kc (show 0≤wide by omega);have h1:=J4f (n:=n) (by omega);have h2:(2:Nat)^1≤2^n:=Nat.pow_le_pow_right (by decide) (by omega)
 have e:((2:Int)^n)=((2^n:Nat):Int):=by simp
 simp only[top,K3,e];omega
theorem Q3u(wide:Int)(hw:1≤wide∧wide≤64):F0 wide=some (top wide):=by
 obtain⟨n,rfl⟩:=Kc (show 0≤wide by omega);have hp:0<(2:Nat)^n:=Nat.two_pow_pos _
 have e:((2:Int)^n)=((2^n:Nat):Int):=by simp
 rw[F0E,Jgf n (by omega) (by omega),wr (by omega),gFo];simp only[top,K3,e];congr 1;omega
def Q3r(wide a:Int):Bool:=decide (1≤wide)&&decide (wide≤64)&&decide (a≤top wide)
theorem Q1p{wide a:Int}:Q3r wide a=true↔1≤wide∧wide≤64∧a≤top wide:=by
 simp only[Q3r,K7,decide_eq_true_eq];omega
theorem Q6m(n:Int):F5j n=some (decide (1≤n∧n≤64)):=by
 rw[F5jE]
 by_cases h:n≥1
 ·rw[gT h];congr 1;apply decide_eq_decide.mpr;omega
 ·rw[gF h];congr 1;symm;apply decide_eq_false;omega
theorem Q2g(n lo hi:Int):F2o n lo hi=some (decide (lo≤n∧n≤hi)):=by
 rw[F2oE]
 by_cases h:n≥lo
 ·rw[gT h];congr 1;apply decide_eq_decide.mpr;omega
 ·rw[gF h];congr 1;symm;apply decide_eq_false;omega
theorem Qa0(n:Int):F69 n=some (decide (1≤n∧n≤64)):=by rw[F69E,J1,Q2g]
theorem Q3c(wide a:Int)(h:U64 a):F5n wide a=some (Q3r wide a):=by
 rw[F5nE,Qa0,J0]
 by_cases hw:1≤wide∧wide≤64
 ·rw[gT hw];obtain⟨h0,h1⟩:=h;obtain⟨n,rfl⟩:=Kc (show 0≤wide by omega);obtain⟨m,rfl⟩:=Kc h0
  have hm:m<2^64:=by simpa using(show m<18446744073709551616 by omega)
  rw[Qfb n m (by omega) hm,J0,show min n 64=n by omega]
  have e:((2:Int)^n)=((2^n:Nat):Int):=by simp
  have hp:0<(2:Nat)^n:=Nat.two_pow_pos _;congr 1;rw[K1w,beq_iff_eq,Q1p];simp only[top,K3,e];constructor
  ·intro h
   have h':m%2^n=m:=by exact_mod_cast h
   have:=Nat.mod_lt m hp;omega
  ·intro h;rw[K2a (by omega)]
 ·rw[gF hw];congr 1;symm;rw[←Bool.not_eq_true,Q1p];omega
theorem Q37(wide a:Int):F5p wide a=some (Q3r wide a):=by
 rw[F5pE,Q6m,J0]
 by_cases hw:1≤wide∧wide≤64
 ·rw[gT hw,Q3u wide hw,J0];congr 1;rw[K1w,Q1p,decide_eq_true_eq];omega
 ·rw[gF hw];congr 1;symm;rw[←Bool.not_eq_true,Q1p];omega
theorem Q93(a:DLN)(left:Int)(h0:0≤left∧left≤1048576)(hl:a.2.length≤big):Fz a left=some (if(a.2.length:Int)≤left then left-a.2.length else -1):=by
 rw[J61]at hl;rw[FzE,wr (by omega)]
 by_cases h:(a.2.length:Int)≤left
 ·rw[gFo,if_pos h]
 ·rw[gTo,if_neg h]
theorem Q95(a:DLN)(hl:a.2.length≤1048576):Fe a=some (false,a.2):=by
 have hlim:lim=1099511627776:=rfl;rw[FeE,gTo,gTo,gTo,gTo,J1]
 have:=J2y a.2 (fun x=>x) (fun o i=>Fag a o i) false (fun i h x hx=>by
  rw[FagE,gTo,gTo,gTo,J2 a.2 _ i h,F8E,J0,gTo,gTs,up1o i,J1,K3]) (fun x hx=>by
  rw[FagE,gFo]) (List.replicate (toNat (a.2.length:Int)) (0,0)) (by simp)
 rw[this];simp
theorem Q9j(a:DLN)(hl:a.2.length≤1048576)(b:Bool):Fi a (b,a.2)=some true:=by
 rw[FiE,bF (by simp)]
 have:=J3m a.2 (fun _=>true) (.inr ():Bool ⊕ Unit) (.inl false) (fun i=>F8y a (b,a.2) i) (fun i h=>by
  rw[F8yE,gTo,gTo,gTo,gTo,gTs,J2 a.2 _ i h,FcE,bF (by simp),bF (by simp),J0,bF (by simp),up1o i,J1,cond_true]) (by
  rw[F8yE,gFo])
 rw[this,show(a.2.all fun _=>true)=true by simp];rfl
theorem Q2n(f g:Bool)(l:List DNode)(hl:l.length≤1048576):Fi (f,l) (g,l)=some true:=Q9j (f,l) hl g
def Q2a(c:DChange):Prop:=c.2.2.length≤1048576
def Q21(c:DCommand):Prop:=c.1.2.length≤1048576∧c.2.2.length≤1048576∧∀d∈c.2.2,Q2a d
def Qg(p:DProgram):Prop:=p.2.2.1.2.length≤1048576∧p.2.2.2.2.length≤1048576∧∀c∈p.2.2.2.2,Q21 c
theorem Qjh(c:DChange)(left:Int)(h0:0≤left∧left≤1048576)(hl:c.2.2.length≤big):∃r,F1u c left=some r∧(r<0∨(0≤r∧r≤left∧Q2a c)):=by
 rw[F1uE,Q93 c.2 left h0 hl,J0]
 by_cases h:(c.2.2.length:Int)≤left
 ·rw[if_pos h,gFo];exact⟨_,rfl,.inr ⟨by omega,by omega,by unfold Q2a;omega⟩⟩
 ·rw[if_neg h,gTo];exact⟨_,rfl,.inl (by omega)⟩
theorem Qc3{α:Type}(l:List α)(Q:α→Prop)(F:Int→Int→Option (Int ⊕ Int))(hl:l.length≤1048576)
  (hs:∀(i:Nat) (h:i<l.length) (left:Int),0≤left∧left≤1048576→(F left (i:Int)=some (.inl (-1)))∨∃r,0≤r∧r≤left∧Q l[i]∧F left (i:Int)=F r ((i+1:Nat):Int))
  (he:∀left,F left (l.length:Int)=some (.inr left))(left:Int)(h0:0≤left∧left≤1048576):F left 0=some (.inl (-1))∨∃r,F left 0=some (.inr r)∧0≤r∧r≤left∧∀x∈l,Q x:=by
 have key:∀(d i:Nat) (left:Int),i+d=l.length→0≤left∧left≤1048576→F left (i:Int)=some (.inl (-1))∨∃r,F left (i:Int)=some (.inr r)∧0≤r∧r≤left∧∀x∈l.drop i,Q x:=by
  intro d
  induction d with
  |zero=>
   intro i left hi h0
   obtain rfl:i=l.length:=by omega
   exact .inr ⟨left,he left,h0.1,Int.le_refl _,by simp⟩
  |succ d ih=>
   intro i left hi h0
   have hlt:i<l.length:=by omega
   rcases hs i hlt left h0 with h|⟨r,h1,h2,h3,h4⟩
   ·exact .inl h
   ·rw[h4]
    rcases ih (i+1) r (by omega) ⟨h1,by omega⟩with h|⟨r',h5,h6,h7,h8⟩
    ·exact .inl h
    ·refine .inr ⟨r',h5,h6,by omega,fun x hx=> ?_⟩;rw[K2 hlt]at hx
     rcases Kd.1 hx with rfl|hx
     ·exact h3
     ·exact h8 x hx
 have:=key l.length 0 left (by omega) h0;simpa using this
theorem Qh1(a:Bool×List DChange)(left:Int)(h0:0≤left∧left≤1048576)(hl:a.2.length≤big)(hb:∀c∈a.2,c.2.2.length≤big):∃r,F4l a left=some r∧(r<0∨(0≤r∧r≤left∧a.2.length≤1048576∧∀c∈a.2,Q2a c)):=by
 rw[J61]at hl;rw[F4lE,wr (by omega)]
 by_cases h:(a.2.length:Int)≤left
 ·rw[gFo]
  rcases Qc3 a.2 Q2a (fun left i=>Fb8 a left i) (by omega) (fun i h left h0=>by
   obtain⟨r,h1,h2⟩:=Qjh a.2[i] left h0 (hb _ (K4 h));rw[Fb8E,gTo,gTo,gTo,J2 a.2 _ i h,h1,J0]
   rcases h2 with h2|⟨h2,h3,h4⟩
   ·rw[gT h2];exact .inl rfl
   ·rw[gFo,up1o i,J1];exact .inr ⟨r,h2,h3,h4,rfl⟩) (fun left=>by
   rw[Fb8E,gFo]) (left-a.2.length) (by omega)with h1|⟨r,h1,h2,h3,h4⟩
  ·rw[h1];exact⟨-1,rfl,.inl (by omega)⟩
  ·rw[h1];exact⟨r,rfl,.inr ⟨h2,by omega,by omega,h4⟩⟩
 ·rw[gTo];exact⟨_,rfl,.inl (by omega)⟩
theorem Qh2(c:DCommand)(left:Int)(h0:0≤left∧left≤1048576)(h1:c.1.2.length≤big)(hl:c.2.2.length≤big)(hb:∀d∈c.2.2,d.2.2.length≤big):∃r,F1q c left=some r∧(r<0∨(0≤r∧r≤left∧Q21 c)):=by
 rw[F1qE,Q93 c.1 left h0 h1,J0]
 by_cases h:(c.1.2.length:Int)≤left
 ·rw[if_pos h,gFo];obtain⟨r,h2,h3⟩:=Qh1 c.2 (left-c.1.2.length) (by omega) hl hb;rw[h2,J0]
  rcases h3 with h3|⟨h3,h4,h5,h6⟩
  ·rw[gT h3];exact⟨_,rfl,.inl (by omega)⟩
  ·rw[gFo];exact⟨_,rfl,.inr ⟨h3,by omega,⟨by omega,h5,h6⟩⟩⟩
 ·rw[if_neg h,gTo];exact⟨_,rfl,.inl (by omega)⟩
def Q7l(c:DCommand):Prop:=c.1.2.length≤big∧c.2.2.length≤big∧∀d∈c.2.2,d.2.2.length≤big
theorem Qef(a:Bool×List DCommand)(left:Int)(h0:0≤left∧left≤1048576)(hl:a.2.length≤big)(hb:∀c∈a.2,Q7l c):∃r,F43 a left=some r∧(r<0∨(0≤r∧r≤left∧a.2.length≤1048576∧∀c∈a.2,Q21 c)):=by
 rw[J61]at hl;rw[F43E,wr (by omega)]
 by_cases h:(a.2.length:Int)≤left
 ·rw[gFo]
  rcases Qc3 a.2 Q21 (fun left i=>Fan a left i) (by omega) (fun i h left h0=>by
   obtain⟨b1,b2,b3⟩:=hb _ (K4 h);obtain⟨r,h1,h2⟩:=Qh2 a.2[i] left h0 b1 b2 b3;rw[FanE,gTo,gTo,gTo,J2 a.2 _ i h,h1,J0]
   rcases h2 with h2|⟨h2,h3,h4⟩
   ·rw[gT h2];exact .inl rfl
   ·rw[gFo,up1o i,J1];exact .inr ⟨r,h2,h3,h4,rfl⟩) (fun left=>by
   rw[FanE,gFo]) (left-a.2.length) (by omega)with h1|⟨r,h1,h2,h3,h4⟩
  ·rw[h1];exact⟨-1,rfl,.inl (by omega)⟩
  ·rw[h1];exact⟨r,rfl,.inr ⟨h2,by omega,by omega,h4⟩⟩
 ·rw[gTo];exact⟨_,rfl,.inl (by omega)⟩
theorem Qkb{p:DProgram}(w:WfD tyProgram p):p.2.2.1.2.length≤big∧p.2.2.2.2.length≤big∧∀c∈p.2.2.2.2,Q7l c:=by
 obtain⟨_,_,h1,h2⟩:=w;refine⟨h1.2.1,h2.2.1,fun c hc=> ?_⟩;obtain⟨h3,h4⟩:=h2.2.2 c hc;exact⟨h3.2.1,h4.2.1,fun d hd=>(h4.2.2 d hd).2.2.1⟩
theorem Qh3(p:DProgram)(w:WfD tyProgram p)(left:Int)(h0:0≤left∧left≤1048576):∃r,F7g p left=some r∧(r<0∨(0≤r∧r≤left∧Qg p)):=by
 obtain⟨b1,b2,b3⟩:=Qkb w;rw[F7gE,Q93 p.2.2.1 left h0 b1,J0]
 by_cases h:(p.2.2.1.2.length:Int)≤left
 ·rw[if_pos h,gFo];obtain⟨r,h2,h3⟩:=Qef p.2.2.2 (left-p.2.2.1.2.length) (by omega) b2 b3;rw[h2,J0]
  rcases h3 with h3|⟨h3,h4,h5,h6⟩
  ·rw[gT h3];exact⟨_,rfl,.inl (by omega)⟩
  ·rw[gFo];exact⟨_,rfl,.inr ⟨h3,by omega,⟨by omega,h5,h6⟩⟩⟩
 ·rw[if_neg h,gTo];exact⟨_,rfl,.inl (by omega)⟩
def Q8h(c:DChange):DChange:=(c.1,(false,c.2.2))
def Q4q(c:DCommand):DCommand:=((false,c.1.2),(false,c.2.2.map Q8h))
def Q9(p:DProgram):DProgram:=(p.1,(p.2.1,((false,p.2.2.1.2),(false,p.2.2.2.2.map Q4q))))
theorem Qh6(a:Bool×List DChange)(hl:a.2.length≤1048576)(hs:∀c∈a.2,Q2a c):F4r a=some (false,a.2.map Q8h):=by
 have hlim:lim=1099511627776:=rfl;rw[F4rE,gTo,gTo,gTo,gTo,J1]
 exact J2y a.2 Q8h (fun o i=>F9h a o i) false (fun i h x hx=>by
  rw[F9hE,gTo,gTo,gTo,J2 a.2 _ i h,F1jE,Q95 _ (hs _ (K4 h)),J0,J0,gTo,gTs,up1o i,J1,K3]
  rfl) (fun x hx=>by
  rw[F9hE,gFo]) (List.replicate (toNat (a.2.length:Int)) (0,(true,[]))) (by simp)
theorem Qeh(a:Bool×List DCommand)(hl:a.2.length≤1048576)(hs:∀c∈a.2,Q21 c):F4k a=some (false,a.2.map Q4q):=by
 have hlim:lim=1099511627776:=rfl;rw[F4kE,gTo,gTo,gTo,gTo,J1]
 exact J2y a.2 Q4q (fun o i=>F9q a o i) false (fun i h x hx=>by
  obtain⟨s1,s2,s3⟩:=hs _ (K4 h);rw[F9qE,gTo,gTo,gTo,J2 a.2 _ i h,F1iE,Q95 _ s1,J0,Qh6 _ s2 s3,J0,J0,gTo,gTs,up1o i,J1,K3]
  rfl) (fun x hx=>by
  rw[F9qE,gFo]) (List.replicate (toNat (a.2.length:Int)) ((true,[]),(true,[]))) (by simp)
theorem Qh7(p:DProgram)(hs:Qg p):F7d p=some (Q9 p):=by
 obtain⟨s1,s2,s3⟩:=hs;rw[F7dE,Q95 _ s1,J0,Qeh _ s2 s3,J0];rfl
theorem Q8i{α:Type}(l:List α)(F:Int→Option (Bool ⊕ Unit))(hs:∀(i:Nat) (h:i<l.length),F (i:Int)=F ((i+1:Nat):Int))(he:F (l.length:Int)=some (.inr ())):F 0=some (.inr ()):=by
 have key:∀(d i:Nat),i+d=l.length→F (i:Int)=some (.inr ()):=by
  intro d
  induction d with
  |zero=>
   intro i hi
   obtain rfl:i=l.length:=by omega
   exact he
  |succ d ih=>intro i hi;rw[hs i (by omega)];exact ih (i+1) (by omega)
 simpa using key l.length 0 (by omega)
theorem Q7e(f g:Bool)(l:List DChange)(hl:l.length≤1048576)(hs:∀c∈l,Q2a c):F4n (f,l) (g,l)=some true:=by
 rw[F4nE,bF (by simp)]
 have:=Q8i l (fun i=>Fbt (f,l) (g,l) i) (fun i h=>by
  rw[FbtE,gTs,gTo,gTs,gTo,gTs,J2 l _ i h,F1pE,bF (by simp),Q2n l[i].2.1 l[i].2.1 l[i].2.2 (hs _ (K4 h)),J0,bF (by simp),J0,bF (by simp),up1o i,J1]) (by
  rw[FbtE,gF (by simp only;omega)])
 rw[this];rfl
theorem Q6f(f g:Bool)(l:List DCommand)(hl:l.length≤1048576)(hs:∀c∈l,Q21 c):F46 (f,l) (g,l)=some true:=by
 rw[F46E,bF (by simp)]
 have:=Q8i l (fun i=>Fc3 (f,l) (g,l) i) (fun i h=>by
  obtain⟨s1,s2,s3⟩:=hs _ (K4 h)
  rw[Fc3E,gTs,gTo,gTs,gTo,gTs,J2 l _ i h,F1kE,Q2n l[i].1.1 l[i].1.1 l[i].1.2 s1,J0,bF (by simp),Q7e l[i].2.1 l[i].2.1 l[i].2.2 s2 s3,J0,bF (by simp),J0,bF (by simp),up1o i,J1]) (by
  rw[Fc3E,gF (by simp only;omega)])
 rw[this];rfl
theorem Q7f(p:DProgram)(hs:Qg p):F87 p p=some true:=by
 obtain⟨s1,s2,s3⟩:=hs;rw[F87E,bF (by simp),bF (by simp),Q2n p.2.2.1.1 p.2.2.1.1 p.2.2.1.2 s1,J0,bF (by simp),Q6f p.2.2.2.1 p.2.2.2.1 p.2.2.2.2 s2 s3,J0,bF (by simp)]
theorem Qm8{p:DProgram}(hs:Qg p):Qg (Q9 p):=by
 obtain⟨s1,s2,s3⟩:=hs;refine⟨s1,by simpa[Q9]using s2,fun c hc=> ?_⟩;obtain⟨c0,h1,rfl⟩:=Kx.1 hc;obtain⟨q1,q2,q3⟩:=s3 c0 h1;refine⟨q1,by simpa[Q4q]using q2,fun d hd=> ?_⟩;obtain⟨d0,h2,rfl⟩:=Kx.1 hd;exact q3 d0 h2
theorem Q49(f g:Bool)(l:List Int)(hl:l.length≤1048576):F2c (f,l) (g,l)=some true:=by
 rw[F2cE,bF (by simp),Q8i l (fun i=>Fb9 (f,l) (g,l) i) (fun i h=>by
  rw[Fb9E,gTs,gTo,gTs,gTo,gTs,bF (by simp),up1o i,J1]) (by rw[Fb9E,gF (by simp)]),J0]
def Q1o(k:Int):Nat→List Int
 |0=>[]
 |n+1=>k::Q1o (k+1) n
theorem Q8g(n:Nat):∀k:Int,(Q1o k n).length =n:=by
 induction n with
 |zero=>intro k;rfl
 |succ n ih=>intro k;simp[Q1o,ih]
theorem Qbs(d:Nat):∀(i:Nat) (b:Bool) (x:List Int) (k:Int),i+d=x.length→x.length≤1048576→0≤k→k+d≤4000000000000000000→Faz (b,x) k (i:Int)=some ((b,x.take i++Q1o k d),k+d):=by
 induction d with
 |zero=>
  intro i b x k hi hl hk hk2;rw[FazE,gF (by simp only;omega),K1d (by omega)];simp[Q1o]
 |succ d ih=>
  intro i b x k hi hl hk hk2;rw[FazE,gTs,gTo,gTs,up1o i,wr (by omega),J1,K3,ih (i+1) b (x.set i k) (k+1) (by simp;omega) (by simpa using hl) (by omega) (by omega)]
  have e:(x.set i k).take (i+1)=x.take i++[k]:=by
   rw[K1f (by simpa using(by omega:i<x.length)),List.getElem_set_self,List.take_set_of_le (Kz _)]
  rw[e,Q1o,Kj,K25,show k+1+(d:Int)=k+((d+1:Nat):Int) by omega]
theorem Q8v(b:Bool)(x:List Int)(k:Int)(hl:x.length≤1048576)(h0:0≤k)(hk:k+x.length≤4000000000000000000):F28 (b,x) k=some ((b,Q1o k x.length),k+x.length):=by
 have:=Qbs x.length 0 b x k (by omega) hl h0 hk;have h':Faz (b,x) k 0=_:=this;rw[F28E,h',J0,List.take_zero,Kt]
theorem Qbd(d:Nat):∀(i:Nat) (b:Bool) (x:List Int) (k:Int),i+d=x.length→x.length≤1048576→0≤k→k+d≤4000000000000000000→x.drop i=Q1o k d→Fa2 (b,x) k (i:Int)=some (.inr (k+d)):=by
 induction d with
 |zero=>
  intro i b x k hi hl hk hk2 hx;rw[Fa2E,gF (by simp only;omega)];simp
 |succ d ih=>
  intro i b x k hi hl hk hk2 hx
  have hlt:i<x.length:=by omega
  rw[K2 hlt,Q1o]at hx;obtain⟨hx1,hx2⟩:=List.cons.inj hx;rw[Fa2E,gTs,gTo,gTs,J2 x _ i hlt,hx1,bF (by simp),up1o i,wr (by omega),J1,ih (i+1) b x (k+1) (by omega) hl (by omega) (by omega) hx2];congr 2;omega
theorem Q8n(b:Bool)(n:Nat)(k:Int)(hl:n≤1048576)(h0:0≤k)(hk:k+n≤4000000000000000000):F2a (b,Q1o k n) k=some (k+n):=by
 have h1:=Q8g n k;have:=Qbd n 0 b (Q1o k n) k (by omega) (by omega) h0 (by omega) rfl;have h':Fa2 (b,Q1o k n) k 0=_:=this;rw[F2aE,h',J0]
theorem Q1s{α:Type}(l:List α)(i:Nat)(x z:α)(h:i<l.length):(l.set i x).getD i z=x:=by
 simp[K1,h]
def Q3h(k:Int):Nat→List DNode
 |0=>[]
 |n+1=>(k,u64.wrap (k+1))::Q3h (k+2) n
theorem Q4p(n:Nat):∀k:Int,(Q3h k n).length =n:=by
 induction n with
 |zero=>intro k;rfl
 |succ n ih=>intro k;simp[Q3h,ih]
theorem Qa7(d:Nat):∀(i:Nat) (b:Bool) (x:List DNode) (k:Int),i+d=x.length→x.length≤1048576→0≤k→k+2*d≤4000000000000000000→Fbq (b,x) k (i:Int)=some ((b,x.take i++Q3h k d),k+2*d):=by
 induction d with
 |zero=>
  intro i b x k hi hl hk hk2;rw[FbqE,gF (by simp only;omega),K1d (by omega)];simp[Q3h]
 |succ d ih=>
  intro i b x k hi hl hk hk2
  have hlt:i<x.length:=by omega
  have hw:i64.wrap (k+1)=k+1:=wr (by omega);have e1:(x.set i (k,(x.getD i (0,0)).2)).getD i (0,0)=(k,(x.getD i (0,0)).2):=Q1s x i _ _ hlt;rw[FbqE,gTs,gTo,gTs,gTo,gT (by rw[Km];simp only;omega),up1o i,hw,wr (by omega),J1];simp only[K3,e1,List.set_set];rw[ih (i+1) b (x.set i (k,u64.wrap (k+1))) (k+1+1) (by rw[Km];omega) (by rw[Km];exact hl) (by omega) (by omega)]
  have e:(x.set i (k,u64.wrap (k+1))).take (i+1)=x.take i++[(k,u64.wrap (k+1))]:=by
   rw[K1f (by rw[Km];exact hlt),List.getElem_set_self,List.take_set_of_le (Kz _)]
  rw[e,Q3h,Kj,K25,show k+1+1+2*(d:Int)=k+2*((d+1:Nat):Int) by omega,show k+1+1=k+2 by omega]
theorem Q5r(a:DLN)(k:Int)(hl:a.2.length≤1048576)(h0:0≤k)(hk:k+2*a.2.length≤4000000000000000000):Fj a k=some ((a.1,Q3h k a.2.length),k+2*a.2.length):=by
 have h2:=Qa7 a.2.length 0 a.1 a.2 k (by omega) hl h0 hk;have h':Fbq (a.1,a.2) k 0=_:=h2;rw[FjE,h',J0,List.take_zero,Kt]
theorem Q6o(a:DLN)(k:Int)(hl:a.2.length≤1048576)(h0:0≤k)(hk:k+2*1048576≤4000000000000000000):∃y k',y.length=a.2.length∧Fj a k=some ((a.1,y),k')∧k≤k'∧k'≤k+2*1048576:=
 ⟨_,_,Q4p _ _,Q5r a k hl h0 (by omega),by omega,by omega⟩
theorem Qa5{α:Type}(P:α→Prop)(A:Int)(hA:0≤A)(F:Bool×List α→Int→Int→Option ((Bool×List α)×Int))(b:Bool)(n:Nat)
  (hs:∀(i:Nat) (x:List α) (k:Int) (h:i<x.length),x.length=n→P x[i]→0≤k→k+A≤4000000000000000000→∃e k',F (b,x) k (i:Int)=F (b,x.set i e) k' ((i+1:Nat):Int)∧k≤k'∧k'≤k+A)
  (he:∀(x:List α) (k:Int),x.length=n→F (b,x) k (n:Int)=some ((b,x),k))(d:Nat):∀(i:Nat) (x:List α) (k:Int),i+d=n→x.length=n→(∀e∈x.drop i,P e)→0≤k→k+d*A≤4000000000000000000→
  ∃y k',y.length=x.length∧F (b,x) k (i:Int)=some ((b,y),k')∧k≤k'∧k'≤k+d*A:=by
 induction d with
 |zero=>
  intro i x k hi hx hp hk hk2
  obtain rfl:i=n:=by omega
  exact⟨x,k,rfl,he x k hx,by omega,by simp⟩
 |succ d ih=>
  intro i x k hi hx hp hk hk2
  have e1:((d+1:Nat):Int)*A=d*A+A:=by rw[Int.natCast_add,Int.add_mul];simp
  have e2:0≤(d:Int)*A:=Int.mul_nonneg (by omega) hA;rw[e1]at hk2
  have hlt:i<x.length:=by omega
  rw[K2 hlt]at hp;obtain⟨e,k1,q2,q3,q4⟩:=hs i x k hlt hx (hp _ Kk) hk (by omega)
  obtain⟨y,k2,r1,r2,r3,r4⟩:=ih (i+1) (x.set i e) k1 (by omega) (by rw[Km];exact hx) (fun c hc=>by
   rw[List.drop_set_of_lt (by omega)]at hc
   exact hp c (K9 _ hc)) (by omega) (by omega)
  rw[Km]at r1;exact⟨y,k2,r1,by rw[q2,r2],by omega,by rw[e1];omega⟩
theorem Qbr(a:Bool×List DChange)(k:Int)(hl:a.2.length≤1048576)(hs:∀c∈a.2,Q2a c)(h0:0≤k)(hk:k+1048576*2097153≤4000000000000000000):∃y k',y.length=a.2.length∧F3z a k=some ((a.1,y),k')∧k≤k'∧k'≤k+1048576*2097153:=by
 obtain⟨y,k',h1,h2,h3,h4⟩:=Qa5 Q2a 2097153 (by omega) Fbk a.1 a.2.length (fun i x k h hx hp hk hk2=>by
  have hw:i64.wrap (k+1)=k+1:=wr (by omega);obtain⟨y,k',q1,q2,q3,q4⟩:=Q6o x[i].2 (k+1) hp (by omega) (by omega);refine⟨(k,(x[i].2.1,y)),k',?_,by omega,by omega⟩
  have e0:x.getD i (0,(true,[]))=x[i]:=by simp[K1,h]
  have e1:(x.set i (k,x[i].2)).getD i (0,(true,[]))=(k,x[i].2):=Q1s x i _ _ h;rw[FbkE,gTs,gTo,gTs,gTo,gT (by rw[Km];simp only;omega),up1o i,hw];have q2':Fj (x[i].2.1,x[i].2.2) (k+1)=some ((x[i].2.1,y),k'):=q2
  simp only[K3,e0,e1,q2',J0,J1,List.set_set]) (fun x k hx=>by rw[FbkE,gF (by simp only;omega)]) a.2.length 0 a.2 k (by omega) rfl (by simpa using hs) h0 (by omega)
 have h':Fbk (a.1,a.2) k 0=_:=h2;exact⟨y,k',h1,by rw[F3zE,h',J0],h3,by omega⟩
theorem Qa6(a:Bool×List DCommand)(k:Int)(hl:a.2.length≤1048576)(hs:∀c∈a.2,Q21 c)(h0:0≤k)(hk:k+1048576*2199026401280≤4000000000000000000):∃y k',y.length=a.2.length∧F44 a k=some ((a.1,y),k')∧k≤k'∧k'≤k+1048576*2199026401280:=by
 obtain⟨y,k',h1,h2,h3,h4⟩:=Qa5 Q21 2199026401280 (by omega) Fcp a.1 a.2.length (fun i x k h hx hp hk hk2=>by
  obtain⟨y,k1,q1,q2,q3,q4⟩:=Q6o x[i].1 k hp.1 (by omega) (by omega);obtain⟨z,k2,r1,r2,r3,r4⟩:=Qbr x[i].2 k1 hp.2.1 hp.2.2 (by omega) (by omega);refine⟨((x[i].1.1,y),(x[i].2.1,z)),k2,?_,by omega,by omega⟩
  have e0:x.getD i ((true,[]),(true,[]))=x[i]:=by simp[K1,h]
  have e1:(x.set i ((x[i].1.1,y),x[i].2)).getD i ((true,[]),(true,[]))=((x[i].1.1,y),x[i].2):=Q1s x i _ _ h;have q2':Fj (x[i].1.1,x[i].1.2) k=some ((x[i].1.1,y),k1):=q2;have r2':F3z (x[i].2.1,x[i].2.2) k1=some ((x[i].2.1,z),k2):=r2;rw[FcpE,gTs,gTo,gTs,up1o i];simp only[K3,e0,q2',J0];rw[gTo,gTo]
  simp only[e1,r2',J0,J1,List.set_set]) (fun x k hx=>by rw[FcpE,gF (by simp only;omega)]) a.2.length 0 a.2 k (by omega) rfl (by simpa using hs) h0 (by omega)
 have h':Fcp (a.1,a.2) k 0=_:=h2;exact⟨y,k',h1,by rw[F44E,h',J0],h3,by omega⟩
theorem Qbt(p:DProgram)(hs:Qg p)(k:Int)(h0:0≤k)(hk:k≤1000000000):∃y z k',F8i p.1 p.2.1 (p.2.2.1.1,p.2.2.1.2) (p.2.2.2.1,p.2.2.2.2) k=some (y,(z,k'))∧k≤k'∧k'≤3000000000000000000:=by
 obtain⟨y,k1,q1,q2,q3,q4⟩:=Q6o p.2.2.1 k hs.1 (by omega) (by omega);obtain⟨z,k2,r1,r2,r3,r4⟩:=Qa6 p.2.2.2 k1 hs.2.1 hs.2.2 (by omega) (by omega);have q2':Fj (p.2.2.1.1,p.2.2.1.2) k=_:=q2;have r2':F44 (p.2.2.2.1,p.2.2.2.2) k1=_:=r2;exact⟨_,_,k2,by rw[F8iE,q2',J0,r2',J0],by omega,by omega⟩
def Q4l(a:List DLN):Prop:=a.length≤1048576∧∀x∈a,x.2.length≤1048576
theorem Qd6(a:DRN)(left:Int)(h0:0≤left∧left≤1048576)(hl:a.2.length≤big)(hb:∀x∈a.2,x.2.length≤big):∃r,F2v a left=some r∧(r<0∨(0≤r∧r≤left∧Q4l a.2)):=by
 rw[J61]at hl;rw[F2vE,wr (by omega)]
 by_cases h:left-(a.2.length:Int)<0
 ·rw[gT h];exact⟨-1,rfl,.inl (by omega)⟩
 ·rw[gF h]
  rcases Qc3 a.2 (fun x=>x.2.length≤1048576) (fun l i=>Faf a l i) (by omega) (fun i hi l hl2=>by
   rw[FafE,gTo,gTo,gTo,J2 a.2 _ i hi,Q93 _ l hl2 (hb _ (K4 hi)),J0,up1o i,J1]
   by_cases c:(a.2[i].2.length :Int)≤l
   ·rw[if_pos c,gFo];exact .inr ⟨_,by omega,by omega,by omega,rfl⟩
   ·rw[if_neg c,gTo]
    exact .inl rfl) (fun l=>by rw[FafE,gFo]) (left-a.2.length) (by omega)with h1|⟨r,h1,h2,h3,h4⟩
  ·exact⟨-1,by rw[h1,J0],.inl (by omega)⟩
  ·exact⟨r,by rw[h1,J0],.inr ⟨h2,by omega,by omega,h4⟩⟩
def Q28(a:List DLN):List DLN:=a.map fun x=>(false,x.2)
theorem Q9a{a:List DLN}(h:Q4l a):Q4l (Q28 a):=by
 refine⟨by rw[Q28,Kh];exact h.1,fun x hx=> ?_⟩;obtain⟨y,hy,rfl⟩:=Kx.1 hx;exact h.2 y hy
theorem Qd7(a:DRN)(hs:Q4l a.2):F21 a=some (false,Q28 a.2):=by
 have hlim:=J4;have hl:=hs.1;rw[F21E,gTo,gTo,gTo,gTo]
 have:=J2y a.2 (fun x=>(false,x.2)) (fun o i=>Fcl a o i) false (fun i h x hx=>by
  rw[FclE,gTo,gTo,gTo,J2 a.2 _ i h,Q95 _ (hs.2 _ (K4 h)),J0,gTo,gTs,up1o i,J1,K3]) (fun x hx=>by
  rw[FclE,gFo]) (List.replicate (toNat (a.2.length:Int)) ((true,[]):DLN)) (by simp)
 rw[this,J0];rfl
theorem Q4s(f g:Bool)(a b:List DLN)(hs:Q4l a)(h:a.map Prod.snd=b.map Prod.snd):F3a (f,a) (g,b)=some true:=by
 have hl:=hs.1
 have hlen:a.length=b.length:=by have:=congrArg List.length h;simpa using this
 rw[F3aE,bF (by simp[hlen]),Q8i a (fun i=>F9s (f,a) (g,b) i) (fun i hi=>by
  have hi2:i<b.length:=by omega
  have e:b[i].2 =a[i].2 :=by
   have h1:(a.map Prod.snd)[i]'(by simpa using hi)=(b.map Prod.snd)[i]'(by simpa using hi2):=by simp only[h]
   simpa using h1.symm
  have e2:Fi a[i] b[i]=some true:=by
   have:=Q2n a[i].1 b[i].1 a[i].2 (hs.2 _ (K4 hi));rw[show b[i]=(b[i].1,a[i].2) by rw[←e]];exact this
  rw[F9sE,gTs,gTo,gTs,gTo,gTs,J2 a _ i hi,J2 b _ i hi2,e2,J0,K5,cond_false,up1o i,J1]) (by rw[F9sE,gF (by simp)]),J0]
def Q2q(a:List DLN):Nat:=(a.map fun x=>x.2.length).sum
def Q5a(k:Int):List DLN→List DLN
 |[]=>[]
 |x::a=>(x.1,Q3h k x.2.length)::Q5a (k+2*x.2.length) a
theorem Q8w(b:Bool)(d:Nat):∀(i:Nat) (x:List DLN) (k:Int),i+d=x.length→Q4l x→0≤k→k+2*(Q2q (x.drop i))≤4000000000000000000→F9m (b,x) k (i:Int)=some ((b,x.take i++Q5a k (x.drop i)),k+2*Q2q (x.drop i)):=by
 induction d with
 |zero=>
  intro i x k hi hs hk hk2;rw[F9mE,gF (by simp only;omega),K1d (by omega),K8 (by omega)];simp[Q5a,Q2q]
 |succ d ih=>
  intro i x k hi hs hk hk2;have hl:=hs.1
  have hlt:i<x.length:=by omega
  rw[K2 hlt]at hk2⊢;simp only[Q2q,K12,List.sum_cons]at hk2⊢;have hm:=Q5r x[i] k (hs.2 _ (K4 hlt)) hk (by omega);have hm':Fj (x[i].1,x[i].2) k=_:=hm;have hd:(x.set i (x[i].1,Q3h k x[i].2.length)).drop (i+1)=x.drop (i+1):=List.drop_set_of_lt (by omega);rw[F9mE,gTs,gTo,gTs,J2 x _ i hlt,hm',J0,up1o i,J1,K3]
  have h2:=ih (i+1) (x.set i (x[i].1,Q3h k x[i].2.length)) (k+2*x[i].2.length) (by rw[Km];omega) ⟨by rw[Km];exact hl,fun y hy=>by
   rcases List.mem_or_eq_of_mem_set hy with h|h
   ·exact hs.2 y h
   ·rw[h,Q4p];exact hs.2 _ (K4 hlt)⟩ (by omega) (by rw[hd,Q2q];omega)
  rw[hd]at h2;rw[h2]
  have e:(x.set i (x[i].1,Q3h k x[i].2.length)).take (i+1)=x.take i++[(x[i].1,Q3h k x[i].2.length)]:=by
   rw[K1f (by rw[Km];exact hlt),List.getElem_set_self,List.take_set_of_le (Kz _)]
  rw[e,Q5a,Kj,K25];congr 2;simp only[Q2q];omega
theorem Qgy(a:List DLN)(hs:∀x∈a,x.2.length≤1048576):Q2q a≤a.length*1048576:=by
 induction a with
 |nil=>simp[Q2q]
 |cons x a ih=>
  have h1:=hs x Kk
  have h2:=ih fun y hy=>hs y (K9 _ hy)
  simp only[Q2q,K12,List.sum_cons,Kq]at h2⊢;rw[K1b];omega
theorem Q47{a:List DLN}(hs:Q4l a):Q2q a≤1099511627776:=by
 have h1:=Qgy a hs.2;have h2:a.length*1048576≤1048576*1048576:=Kr _ hs.1;omega
theorem Q7v(b:Bool)(a:List DLN)(k:Int)(hs:Q4l a)(h0:0≤k)(hk:k≤3500000000000000000):F3e (b,a) k=some ((b,Q5a k a),k+2*Q2q a):=by
 have hz:=Q47 hs;have h:=Q8w b a.length 0 a k (by omega) hs h0 (by rw[Kg];omega);rw[Kg,List.take_zero,Kt]at h;have h':F9m (b,a) k 0=_:=h;rw[F3eE,h',J0]
def Q86(a:List DLI):Prop:=a.length≤1048576∧∀x∈a,x.2.length≤1048576
def need(op:Int):Int×Int×Int:=
 if op=1∨op=2 then(0,1,1)else if op=20 then(0,2,2)else if op=13 then(1,1,1)else if op=19 then(1,2,2)
 else if 3≤op∧op≤12 then(2,1,1)else if 14≤op∧op≤16 then(2,1,2)else if op=17∨op=18 then(2,2,2)else(0,0,0)
theorem Qe5(op:Int):need op=(0,1,1)∨need op=(0,2,2)∨need op=(1,1,1)∨need op=(1,2,2)∨need op=(2,1,1)∨need op=(2,1,2)∨need op=(2,2,2)∨need op=(0,0,0):=by
 unfold need
 repeat' split
 all_goals simp
theorem Q4z(op:Int):∃m:Nat,(need op).1 =(m:Int)∧m≤2:=by
 rcases Qe5 op with h|h|h|h|h|h|h|h<;>rw[h]
 ·exact⟨0,rfl,by omega⟩
 ·exact⟨0,rfl,by omega⟩
 ·exact⟨1,rfl,by omega⟩
 ·exact⟨1,rfl,by omega⟩
 ·exact⟨2,rfl,by omega⟩
 ·exact⟨2,rfl,by omega⟩
 ·exact⟨2,rfl,by omega⟩
 ·exact⟨0,rfl,by omega⟩
theorem Qcs(op:Int):F5h op=some (need op):=by
 rw[F5hE,Q2g,Q2g];unfold need
 by_cases h1:op=1
 ·simp[h1]
 ·by_cases h2:op=2
  ·simp[h2]
  ·by_cases h3:op=20
   ·simp[h3]
   ·by_cases h4:op=13
    ·simp[h4]
    ·by_cases h5:op=19
     ·simp[h5]
     ·by_cases h6:3≤op∧op≤12
      ·simp[h1,beqF h1,h2,beqF h2,h3,beqF h3,h4,beqF h4,h5,beqF h5,h6]
      ·by_cases h8:14≤op∧op≤16
       ·have h6':¬(3≤op∧op≤12):=h6;simp[h1,beqF h1,h2,beqF h2,h3,beqF h3,h4,beqF h4,h5,beqF h5,h6',h8]
       ·by_cases h10:op=17
        ·simp[h10]
        ·by_cases h11:op=18
         ·simp[h11]
         ·have h6':¬(3≤op∧op≤12):=h6;have h8':¬(14≤op∧op≤16):=h8;simp[h1,beqF h1,h2,beqF h2,h3,beqF h3,h4,beqF h4,h5,beqF h5,h6',h8',h10,beqF h10,h11,beqF h11]
def Qbv(op:Int):Int×Int×Int:=if op=1∨op=2 then(0,0,1)else if op=20 then(0,0,2)else need op
theorem Q7y(op:Int):F2y op=some (Qbv op):=by
 rw[F2yE];unfold Qbv need
 by_cases h1:op=1
 ·simp[h1]
 ·by_cases h2:op=2
  ·simp[h2]
  ·by_cases h3:op=20
   ·simp[h3]
   ·by_cases h4:op=13
    ·simp[h4]
    ·by_cases h5:op=19
     ·simp[h5]
     ·by_cases h6:3≤op
      ·by_cases h7:op≤12
       ·simp[h1,beqF h1,h2,beqF h2,h3,beqF h3,h4,beqF h4,h5,beqF h5,h6,h7]
       ·by_cases h8:14≤op
        ·by_cases h9:op≤16
         ·simp[h1,beqF h1,h2,beqF h2,h3,beqF h3,h4,beqF h4,h5,beqF h5,h6,h7,h8,h9]
         ·by_cases h10:op=17
          ·simp[h10]
          ·by_cases h11:op=18
           ·simp[h11]
           ·simp[h1,beqF h1,h2,beqF h2,h3,beqF h3,h4,beqF h4,h5,beqF h5,h6,h7,h8,h9,h10,beqF h10,h11,beqF h11]
        ·have h10:¬op=17:=by omega
         have h11:¬op=18:=by omega
         simp[h1,beqF h1,h2,beqF h2,h3,beqF h3,h4,beqF h4,h5,beqF h5,h6,h7,h8,h10,beqF h10,h11,beqF h11]
      ·have h8:¬14≤op:=by omega
       have h10:¬op=17:=by omega
       have h11:¬op=18:=by omega
       simp[h1,beqF h1,h2,beqF h2,h3,beqF h3,h4,beqF h4,h5,beqF h5,h6,h8,h10,beqF h10,h11,beqF h11]
theorem Q6q(op:Int):(Qbv op).1 =(need op).1 ∧(Qbv op).2.2 =(need op).2.2 ∧((need op).1 =0∨(Qbv op).2.1 =(need op).2.1):=by
 unfold Qbv
 by_cases h1:op=1∨op=2
 ·simp[need,h1]
 ·by_cases h2:op=20
  ·simp[need,h2]
  ·simp[h1,h2]
def Q2z(wide vars op n:Int):Bool:=if op=1 then Q3r wide n else if op=2 then decide (n<vars)else if op=20 then decide (n<2)else n==0
theorem l2N(wide vars:Int)(x:DNode)(hv:0≤vars∧vars≤4)(h:U64 x.2):F3s wide vars x=some (Q2z wide vars x.1 x.2):=by
 rw[F3sE,Q3c wide x.2 h,wru (by omega)];unfold Q2z
 by_cases a1:x.1=1
 ·simp[a1]
 ·by_cases a2:x.1=2
  ·simp[a2]
  ·by_cases a3:x.1=20
   ·simp[a3]
   ·simp[a1,a2,a3,beqF a1,beqF a2,beqF a3]
theorem Qbh(wide vars:Int)(x:DNode)(hv:0≤vars∧vars≤4):F8l wide vars x=some (Q2z wide vars x.1 x.2):=by
 rw[F8lE,Q37 wide x.2,wru (by omega)];unfold Q2z
 by_cases a1:x.1=1
 ·simp[a1]
 ·by_cases a2:x.1=2
  ·simp[a2]
  ·by_cases a3:x.1=20
   ·simp[a3];omega
   ·simp[a1,a2,a3,beqF a1,beqF a2,beqF a3]
def Q6n(wide vars:Int)(st:List Int)(x:DNode):Option (List Int):=
 if(need x.1).2.2 =0 then none else if Q2z wide vars x.1 x.2=true then
  (if(st.length:Int)<(need x.1).1 then none else if(st.drop (st.length-(need x.1).1.toNat)).all (fun y=>y==(need x.1).2.1)=true then some (st.take (st.length-(need x.1).1.toNat)++[(need x.1).2.2])else none)
 else none
def Q2y(wide vars:Int):List DNode→List Int→Option (List Int)
 |[],st=>some st
 |x::xs,st=>(Q6n wide vars st x).bind (Q2y wide vars xs)
def Qb(wide vars:Int)(t:List DNode):Int:=
 if 1≤wide∧wide≤64∧1≤vars∧vars≤4∧1≤t.length∧t.length≤48 then(match Q2y wide vars t []with
  |some [a]=>a
  |_=>0)else 0
theorem Qg1(wide vars part own n i:Int)(t:DLN)(m:Nat):∀(b:Bool) (st:List Int),m≤st.length→st.length<1000→
  Fbn wide vars (b,st) (m:Int) part own t n i=if(st.drop (st.length-m)).all (fun y=>y==part)=true then some (.inr (b,st.take (st.length-m)))else some (.inl 0):=by
 induction m with
 |zero=>
  intro b st hm hs;rw[FbnE,gFo];simp
 |succ m ih=>
  intro b st hm hs
  rcases List.eq_nil_or_concat st with rfl|⟨st',a,rfl⟩
  ·simp at hm
  ·rw[List.concat_eq_append]at *;simp only[Kf,K1c]at hm hs⊢
   have e1:i64.wrap (((st'.length+1:Nat):Int)-1)=(st'.length:Int):=by rw[wr (by omega)];omega
   have e2:i64.wrap (((m+1:Nat):Int)-1)=(m:Int):=by rw[wr (by omega)];omega
   have e3:(st'++[a]).getD (toNat (st'.length:Int)) 0=a:=by
    rw[J2 _ _ _ (by simp)];simp
   have e4:(st'++[a]).take st'.length=st':=List.take_left' rfl;rw[FbnE];simp only[Kf,K1c]
   rw[e1,e2,e3,gTo,gTo,gTo,gTo,gTo,K3,e4,Kg,J1,
    show st'.length+1-(m+1)=st'.length-m by omega,List.drop_append_of_le_length (by omega),List.all_append,List.take_append_of_le_length (by omega)]
   by_cases ha:a=part
   ·rw[bF (by simp[ha]),ih b st' (by omega) (by omega)];simp[ha]
   ·rw[bT (by simp[ha])];simp[ha]
theorem Qg0(wide vars:Int)(t:DLN)(ht:t.2.length≤48)(hv:0≤vars∧vars≤4)(hw:∀x∈t.2,U64 x.2)(d:Nat):∀(i:Nat) (b:Bool) (st:List Int),i+d=t.2.length→st.length≤i→
  (Q2y wide vars (t.2.drop i) st=none∧F9j wide vars (b,st) t (t.2.length:Int) (i:Int)=some (.inl 0))∨∃b' s,Q2y wide vars (t.2.drop i) st=some s∧F9j wide vars (b,st) t (t.2.length:Int) (i:Int)=some (.inr (b',s)):=by
 induction d with
 |zero=>
  intro i b st hi hs;rw[F9jE,gFo,K8 (by omega)];exact .inr ⟨b,st,rfl,rfl⟩
 |succ d ih=>
  intro i b st hi hs
  have hlt:i<t.2.length:=by omega
  have hx:=hw _ (K4 hlt);have hlim:lim=1099511627776:=rfl;rw[F9jE,gTo,gTo,gTo,J2 t.2 _ i hlt,Qcs,J0,K2 hlt];simp only[Q2y,Q6n];rw[l2N wide vars _ hv hx]
  by_cases h0:(need t.2[i].1).2.2 =0
  ·rw[bT (by simp[h0]),if_pos h0];exact .inl ⟨rfl,rfl⟩
  ·rw[bF (by simp[h0]),if_neg h0,J0]
   cases hl:Q2z wide vars t.2[i].1 t.2[i].2 with
   |false=>exact .inl ⟨rfl,rfl⟩
   |true=>
    rw[bF (by simp),if_pos rfl]
    by_cases hn:(st.length:Int)<(need t.2[i].1).1
    ·rw[gT hn,if_pos hn];exact .inl ⟨rfl,rfl⟩
    ·rw[gF hn,if_neg hn];obtain⟨m,hm,hm2⟩:=Q4z t.2[i].1;rw[hm]at hn⊢;rw[K3,Qg1 wide vars _ _ _ _ t m b st (by omega) (by omega)]
     by_cases ha:(st.drop (st.length-m)).all (fun y=>y==(need t.2[i].1).2.1)=true
     ·rw[if_pos ha,if_pos ha];simp only[J0];rw[gT (by simp;omega),up1o i,J1];exact ih (i+1) _ _ (by omega) (by simp;omega)
     ·rw[if_neg ha,if_neg ha,J0];exact .inl ⟨rfl,rfl⟩
theorem Qjw(wide vars:Int)(t:DLN)(hw:∀x∈t.2,U64 x.2):F12 wide vars t=some (Qb wide vars t.2):=by
 rw[F12E,Qa0,Q2g,Q2g,J0,J0,J0];unfold Qb
 by_cases h1:1≤wide∧wide≤64
 ·by_cases h3:1≤vars∧vars≤4
  ·by_cases h5:1≤(t.2.length:Int)∧(t.2.length:Int)≤48
   ·rw[bF (by simp[h1]),bF (by simp[h3]),bF (by simp;omega),if_pos (by omega)]
    rcases Qg0 wide vars t (by omega) (by omega) hw t.2.length 0 true [] (by omega) (by simp)with⟨k1,k2⟩|⟨b,s,k1,k2⟩
    ·rw[show((0:Nat):Int)=0 from rfl]at k2;rw[k2,J0];rw[Kg]at k1;rw[k1]
    ·rw[show((0:Nat):Int)=0 from rfl]at k2;rw[k2,J0];rw[Kg]at k1;rw[k1]
     match s with
     |[]=>simp
     |[a]=>simp
     |a::b::st=>
      have:(((a::b::st).length :Int) !=1)=true:=by simp;omega
      simp only;rw[bT this]
   ·rw[bF (by simp[h1]),bF (by simp[h3]),bT (by simp;omega),if_neg (by omega)]
  ·rw[bF (by simp[h1]),bT (by simp;omega),if_neg (by omega)]
 ·rw[bT (by simp;omega),if_neg (by omega)]
theorem Q4w{wide vars:Int}{t:List DNode}(h:Qb wide vars t≠0):1≤wide∧wide≤64∧1≤vars∧vars≤4∧1≤t.length∧t.length≤48:=by
 unfold Qb at h;split at h
 ·assumption
 ·exact absurd rfl h
theorem Q7r(wide vars:Int):∀(xs:List DNode) (st r:List Int),Q2y wide vars xs st=some r→∀h:xs≠[],(∃r',r=r'++[(need (xs.getLast h).1).2.2])∧(need (xs.getLast h).1).2.2 ≠0:=by
 intro xs
 induction xs with
 |nil=>intro st r _ h;exact absurd rfl h
 |cons x xs ih=>
  intro st r hr h;simp only[Q2y,Ki]at hr;obtain⟨s,h1,h2⟩:=hr
  cases xs with
  |nil=>
   simp only[Q2y,K0]at h2;subst h2;simp only[List.getLast_singleton];unfold Q6n at h1;split at h1
   ·simp at h1
   ·rename_i hne;split at h1
    ·split at h1
     ·simp at h1
     ·split at h1
      ·simp only[K0]at h1;exact⟨⟨_,h1.symm⟩,hne⟩
      ·simp at h1
    ·simp at h1
  |cons y ys=>
   have:=ih s r h2 (by simp);rwa[List.getLast_cons (by simp)]
theorem Q7s{wide vars:Int}{t:List DNode}(h:Qb wide vars t≠0)(hne:t≠[]):Q2y wide vars t []=some [Qb wide vars t]∧Qb wide vars t=(need (t.getLast hne).1).2.2 :=by
 unfold Qb at h⊢;split at h
 ·rename_i hc;rw[if_pos hc];split at h
  ·rename_i a ha;obtain⟨⟨r',e⟩,h0⟩:=Q7r wide vars t [] [a] ha hne
   have hr:r'=[]:=by
    have:=congrArg List.length e;simp at this;exact this
   subst hr;rw[ha];exact⟨rfl,by simpa using e⟩
  ·exact absurd rfl h
 ·exact absurd rfl h
theorem Q8e(b:Bool)(l:List Int)(a:Int)(hl:l.length≤1000):F7n (b,l) (a,())=some (l.any fun y=>a !=y):=by
 rw[F7nE,F45E]
 exact Jc (Ja l (fun y=>a !=y) (fun i=>Fal (b,l) (a,()) (l.length:Int) i) (fun i h=>by
  rw[FalE,gTo,gTo,gTs,J2 l _ i h,F8gE,J0,up1o i,J1]
  simp only[bne_comm]) (by rw[FalE,gFo]))
theorem Qbb(wide vars:Int)(t:DLN)(ht:t.2.length≤48)(hv:0≤vars∧vars≤4)(d:Nat):∀(i:Nat) (b:Bool) (st:List Int),i+d=t.2.length→st.length≤i→
  (Q2y wide vars (t.2.drop i) st=none∧F98 wide vars (b,st) t (t.2.length:Int) (i:Int)=some (.inl false))∨∃b' s,Q2y wide vars (t.2.drop i) st=some s∧F98 wide vars (b,st) t (t.2.length:Int) (i:Int)=some (.inr (b',s)):=by
 induction d with
 |zero=>
  intro i b st hi hs;rw[F98E,gFo,K8 (by omega)];exact .inr ⟨b,st,rfl,rfl⟩
 |succ d ih=>
  intro i b st hi hs
  have hlt:i<t.2.length:=by omega
  obtain⟨p1,p2,p3⟩:=Q6q t.2[i].1;have hlim:lim=1099511627776:=rfl;rw[F98E,gTo,gTo,gTo,J2 t.2 _ i hlt,Q7y,J0,K2 hlt,Qbh wide vars _ hv,p1,p2];simp only[Q2y];obtain⟨m,hm,hm2⟩:=Q4z t.2[i].1;rw[hm]
  by_cases h0:(need t.2[i].1).2.2 =0
  ·rw[bT (by simp[h0])];exact .inl ⟨by simp[Q6n,h0],rfl⟩
  ·rw[bF (by simp[h0]),J0]
   cases hl:Q2z wide vars t.2[i].1 t.2[i].2 with
   |false=>exact .inl ⟨by simp[Q6n,hl,h0],rfl⟩
   |true=>
    rw[bF (by simp)]
    by_cases hn:(st.length:Int)<(m:Int)
    ·rw[wr (by omega),gTo];exact .inl ⟨by simp[Q6n,hl,h0,hm,hn],rfl⟩
    ·have e:i64.wrap ((st.length:Int)-(m:Int))=((st.length-m:Nat):Int):=by rw[wr (by omega)];omega
     have ek:Q6n wide vars st t.2[i]=if(st.drop (st.length-m)).all (fun y=>y==(need t.2[i].1).2.1)=true then some (st.take (st.length-m)++[(need t.2[i].1).2.2])else none:=by
      unfold Q6n;rw[if_neg h0,if_pos hl,hm,if_neg hn,K3]
     have ea:(st.drop (st.length-m)).any (fun y=>(Qbv t.2[i].1).2.1 !=y)= !(st.drop (st.length-m)).all (fun y=>y==(need t.2[i].1).2.1):=by
      rcases p3 with p3|p3
      ·have:m=0:=by omega
       subst this;simp
      ·rw[p3,List.not_all_eq_any_not];congr 1;funext y;rw[bne,Bool.beq_comm]
     rw[e,gFo,gTo,gTo,K3,List.take_length,Q8e b (st.drop (st.length-m)) _ (by simp;omega),J0,ea,ek]
     cases ha:(st.drop (st.length-m)).all (fun y=>y==(need t.2[i].1).2.1)with
     |false=>exact .inl ⟨rfl,rfl⟩
     |true=>
      rw[bF (by simp),gTo,gTo,gT (by simp;omega),up1o i,J1,if_pos rfl,Kg];simp only[J0];exact ih (i+1) _ _ (by omega) (by simp;omega)
theorem Q9y(n:Int):F5u n=some (decide (1≤n∧n≤4)):=by
 rw[F5uE]
 by_cases h:n≥1
 ·rw[gT h];congr 1;apply decide_eq_decide.mpr;omega
 ·rw[gF h];congr 1;symm;apply decide_eq_false;omega
theorem Qig(wide vars:Int)(t:DLN):F1h wide vars t=some (Qb wide vars t.2 !=0):=by
 rw[F1hE,Q6m,Q9y,J0,J0]
 by_cases h1:1≤wide∧wide≤64
 ·by_cases h3:1≤vars∧vars≤4
  ·by_cases h5:(t.2.length:Int)<1
   ·rw[bF (by simp[h1]),bF (by simp[h3]),gT h5];unfold Qb;rw[if_neg (by omega)];rfl
   ·by_cases h6:(t.2.length:Int)>48
    ·rw[bF (by simp[h1]),bF (by simp[h3]),gF h5,gT h6];unfold Qb;rw[if_neg (by omega)];rfl
    ·rw[bF (by simp[h1]),bF (by simp[h3]),gF h5,gF h6]
     have hc:1≤wide∧wide≤64∧1≤vars∧vars≤4∧1≤t.2.length∧t.2.length≤48:=by omega
     have hne:t.2≠[]:=by intro h;rw[h]at h5;simp at h5
     rcases Qbb wide vars t (by omega) (by omega) t.2.length 0 false [] (by omega) (by simp)with⟨k1,k2⟩|⟨b,s,k1,k2⟩
     ·rw[show((0:Nat):Int)=0 from rfl]at k2;rw[k2,J0];rw[Kg]at k1;unfold Qb;rw[if_pos hc,k1];rfl
     ·rw[show((0:Nat):Int)=0 from rfl]at k2;rw[k2,J0];rw[Kg]at k1;obtain⟨⟨r',e⟩,hne0⟩:=Q7r wide vars t.2 [] s k1 hne;unfold Qb;rw[if_pos hc,k1]
      match s,e with
      |[],e=>rfl
      |[a],e=>
       have hr:r'=[]:=by
        have:=congrArg List.length e;simp at this;exact this
       subst hr;simp at e;rw[←e]at hne0;simp[hne0]
      |a::b::c,e=>
       simp;omega
  ·rw[bF (by simp[h1]),bT (by simp;omega)];unfold Qb;rw[if_neg (by omega)];rfl
 ·rw[bT (by simp;omega)];unfold Qb;rw[if_neg (by omega)];rfl
theorem Qcl(wide vars kd:Int)(t:DLN)(h0:kd≠0):F5i wide vars t kd=some (Qb wide vars t.2==kd):=by
 rw[F5iE,Qig,J0]
 by_cases hz:Qb wide vars t.2=0
 ·rw[bF (by simp[hz]),hz];congr 1;symm;simp;omega
 ·have hne:t.2≠[]:=by
   intro h;rw[h]at hz;exact hz (by simp[Qb])
  have hin:=Q4w hz;rw[bT (by simp[hz]),F6yE,dn1 _ (by omega) (by omega),gTo,gTo,J2 _ _ _ (by omega),Q7y,J0,J0];rw[(Q6q _).2.1,(Q7s hz hne).2,List.getLast_eq_getElem]
def WfN(t:List DNode):Prop:=∀x∈t,U64 x.2
def WfCh(c:DChange):Prop:=WfN c.2.2
def WfCm(c:DCommand):Prop:=WfN c.1.2∧∀d∈c.2.2,WfCh d
def WfP(p:DProgram):Prop:=WfN p.2.2.1.2∧∀c∈p.2.2.2.2,WfCm c
theorem Q4m{a:DLN}(w:WfD (.sl tyNode) a):WfN a.2:=fun x hx=>Jab (w.2.2 x hx).2
theorem Qho{p:DProgram}(w:WfD tyProgram p):WfP p:=by
 obtain⟨_,_,h1,h2⟩:=w;refine⟨Q4m h1,fun c hc=> ?_⟩;obtain⟨h3,h4⟩:=h2.2.2 c hc;exact⟨Q4m h3,fun d hd=>Q4m (h4.2.2 d hd).2⟩
theorem Qlh{p:DProgram}(w:WfP p):WfP (Q9 p):=by
 refine⟨w.1,fun c hc=> ?_⟩;obtain⟨c0,h1,rfl⟩:=Kx.1 hc;obtain⟨q1,q2⟩:=w.2 c0 h1;refine⟨q1,fun d hd=> ?_⟩;obtain⟨d0,h2,rfl⟩:=Kx.1 hd;exact q2 d0 h2
def Q4o(wide vars:Int):Int→List DChange→Bool
 |_,[]=>true
 |p,c::cs=>decide (p<c.1)&&decide (c.1<vars)&&(Qb wide vars c.2.2==1)&&Q4o wide vars c.1 cs
theorem Qf2(wide vars:Int):∀(l:List DChange) (p:Int),p<vars→Q4o wide vars p l=true→p+(l.length:Int)<vars:=by
 intro l
 induction l with
 |nil=>intro p h _;simpa using h
 |cons c cs ih=>
  intro p h hc;simp only[Q4o,K7,decide_eq_true_eq]at hc;have:=ih c.1 hc.1.1.2 hc.2;simp only[Kq];omega
def Q6a(wide vars:Int)(c:DCommand):Bool:=(Qb wide vars c.1.2==2)&&Q4o wide vars (-1) c.2.2
def Q1j(l:List DChange)(i:Nat):Int:=if i=0 then -1 else(l.getD (i-1) (0,(true,[]))).1
theorem Q68(l:List DChange)(i:Nat)(h:i<l.length):Q1j l (i+1)=l[i].1 :=by
 simp[Q1j,h]
theorem Qa1(p:DProgram)(c:DCommand)(hl:c.2.2.length≤1048576)(hv:1≤p.2.1∧p.2.1≤4)(hw:∀d∈c.2.2,WfCh d)(d:Nat):∀(i:Nat),i+d=c.2.2.length→ -1≤Q1j c.2.2 i→
  F7e p c c.2 (c.2.2.length:Int) (i:Int)=some (bif Q4o p.1 p.2.1 (Q1j c.2.2 i) (c.2.2.drop i)then .inr ()else .inl false):=by
 induction d with
 |zero=>
  intro i hi hb0;rw[F7eE,gFo,K8 (by omega)];rfl
 |succ d ih=>
  intro i hi hb0
  have hlt:i<c.2.2.length:=by omega
  have hx:=hw _ (K4 hlt);have go:=ih (i+1) (by omega);rw[Q68 _ i hlt]at go;rw[K2 hlt,F7eE,gTo,gTo,gTo,J2 _ _ i hlt,Q2g,J0,wr (by omega),up1o i,J1,Qjw p.1 p.2.1 _ hx,J0];simp only[Q4o]
  by_cases h1:0≤c.2.2[i].1 ∧c.2.2[i].1 ≤p.2.1-1
  ·rw[bF (by simp[h1]),go (by omega)]
   have h3:decide (c.2.2[i].1 <p.2.1)=true:=by simp;omega
   rw[h3]
   by_cases hi0:i=0
   ·subst hi0
    have hb:decide (Q1j c.2.2 0<c.2.2[0].1)=true:=by simp[Q1j];omega
    rw[gFo,hb]
    by_cases hk1:Qb p.1 p.2.1 c.2.2[0].2.2 =1
    ·rw[bF (by simp[hk1])];simp[hk1]
    ·rw[bT (by simp[hk1])];simp[beqF hk1]
   ·have hb:Q1j c.2.2 i=c.2.2[i-1].1 :=by
     simp only[Q1j,if_neg hi0];rw[K1];simp[show i-1<c.2.2.length by omega]
    rw[gTo,dn1 i (by omega) (by omega),gTo,gTo,J2 _ _ (i-1) (by omega),hb]
    by_cases h4:c.2.2[i-1].1 ≥c.2.2[i].1
    ·have:decide (c.2.2[i-1].1 <c.2.2[i].1)=false:=by simp;omega
     rw[gT h4,this];rfl
    ·have:decide (c.2.2[i-1].1 <c.2.2[i].1)=true:=by simp;omega
     rw[gF h4,this]
     by_cases hk1:Qb p.1 p.2.1 c.2.2[i].2.2 =1
     ·rw[bF (by simp[hk1])];simp[hk1]
     ·rw[bT (by simp[hk1])];simp[beqF hk1]
  ·rw[bT (by simp;omega)]
   have:(decide (Q1j c.2.2 i<c.2.2[i].1)&&decide (c.2.2[i].1 <p.2.1))=false:=by
    rw[←Bool.not_eq_true];simp;omega
   rw[this];rfl
theorem Qct(p:DProgram)(t:DLN)(h:WfN t.2):F5a p t=some (Qb p.1 p.2.1 t.2==2):=by
 rw[F5aE,Qjw p.1 p.2.1 t h,J0]
theorem Q38(p:DProgram)(t:DLN):F5b p t=some (Qb p.1 p.2.1 t.2==2):=by
 rw[F5bE,Qcl _ _ _ _ (by omega),J1]
theorem Qg2(p:DProgram)(c:DCommand)(hl:c.2.2.length≤1048576)(h:WfCm c):F2q p c=some (Q6a p.1 p.2.1 c):=by
 rw[F2qE,Qct p _ h.1,J0];unfold Q6a
 by_cases h2:Qb p.1 p.2.1 c.1.2=2
 ·have hv:=Q4w (by rw[h2];omega:Qb p.1 p.2.1 c.1.2≠0);rw[bF (by simp[h2]),h2]
  by_cases hn:(c.2.2.length:Int)>p.2.1
  ·have:Q4o p.1 p.2.1 (-1) c.2.2=false:=by
    cases hc:Q4o p.1 p.2.1 (-1) c.2.2 with
    |false=>rfl
    |true=>
     have:=Qf2 p.1 p.2.1 c.2.2 (-1) (by omega) hc;omega
   rw[gT hn,this];rfl
  ·have:=Qa1 p c hl (by omega) h.2 c.2.2.length 0 (by omega) (by simp[Q1j]);rw[show((0:Nat):Int)=0 from rfl,Kg]at this;rw[gF hn,this,J0];simp only[Q1j,if_true];cases Q4o p.1 p.2.1 (-1) c.2.2<;>rfl
 ·rw[bT (by simp[h2]),beqF h2];rfl
theorem Q9x(p:DProgram)(c:DCommand)(hl:c.2.2.length≤1048576)(d:Nat):∀(i:Nat),i+d=c.2.2.length→ -1≤Q1j c.2.2 i→
  F84 p c c.2 (c.2.2.length:Int) (i:Int)=some (bif Q4o p.1 p.2.1 (Q1j c.2.2 i) (c.2.2.drop i)then .inr ()else .inl false):=by
 induction d with
 |zero=>
  intro i hi hb0;rw[F84E,gFo,K8 (by omega)];rfl
 |succ d ih=>
  intro i hi hb0
  have hlt:i<c.2.2.length:=by omega
  have go:=ih (i+1) (by omega);rw[Q68 _ i hlt]at go;rw[K2 hlt,F84E,gTo,gTo,gTo,J2 _ _ i hlt,up1o i,J1,Qcl _ _ _ _ (by omega),J0];simp only[Q4o]
  by_cases h1:c.2.2[i].1 <0
  ·have:decide (Q1j c.2.2 i<c.2.2[i].1)=false:=by simp;omega
   rw[gT h1,this];rfl
  ·rw[gF h1,go (by omega)]
   by_cases h2:c.2.2[i].1 ≥p.2.1
   ·have:decide (c.2.2[i].1 <p.2.1)=false:=by simp;omega
    rw[gT h2,this,K26];rfl
   ·have h3:decide (c.2.2[i].1 <p.2.1)=true:=by simp;omega
    rw[gF h2,h3]
    by_cases hi0:i=0
    ·subst hi0
     have hb:decide (Q1j c.2.2 0<c.2.2[0].1)=true:=by simp[Q1j];omega
     rw[gFo,hb]
     by_cases hk1:Qb p.1 p.2.1 c.2.2[0].2.2 =1
     ·rw[bF (by simp[hk1])];simp[hk1]
     ·rw[bT (by simp[hk1])];simp[beqF hk1]
    ·have hb:Q1j c.2.2 i=c.2.2[i-1].1 :=by
      simp only[Q1j,if_neg hi0];rw[K1];simp[show i-1<c.2.2.length by omega]
     rw[gTo,dn1 i (by omega) (by omega),gTo,gTo,J2 _ _ (i-1) (by omega),hb]
     by_cases h4:c.2.2[i-1].1 ≥c.2.2[i].1
     ·have:decide (c.2.2[i-1].1 <c.2.2[i].1)=false:=by simp;omega
      rw[gT h4,this];rfl
     ·have:decide (c.2.2[i-1].1 <c.2.2[i].1)=true:=by simp;omega
      rw[gF h4,this]
      by_cases hk1:Qb p.1 p.2.1 c.2.2[i].2.2 =1
      ·rw[bF (by simp[hk1])];simp[hk1]
      ·rw[bT (by simp[hk1])];simp[beqF hk1]
theorem Qfv(p:DProgram)(c:DCommand)(hl:c.2.2.length≤1048576):F39 p c=some (Q6a p.1 p.2.1 c):=by
 rw[F39E,Q38,J0];unfold Q6a
 by_cases h2:Qb p.1 p.2.1 c.1.2=2
 ·rw[bF (by simp[h2]),h2];have:=Q9x p c hl c.2.2.length 0 (by omega) (by simp[Q1j]);rw[show((0:Nat):Int)=0 from rfl,Kg]at this;rw[this,J0];simp only[Q1j,if_true];cases Q4o p.1 p.2.1 (-1) c.2.2<;>rfl
 ·rw[bT (by simp[h2]),beqF h2];rfl
def Qc(p:DProgram):Bool:=(Qb p.1 p.2.1 p.2.2.1.2==2)&&(decide (1≤p.2.2.2.2.length∧p.2.2.2.2.length≤6)&&p.2.2.2.2.all fun c=>Q6a p.1 p.2.1 c)
theorem Q2v{p:DProgram}(h:Qc p=true):1≤p.1∧p.1≤64∧1≤p.2.1∧p.2.1≤4:=by
 simp only[Qc,K7,beq_iff_eq]at h;have:=Q4w (t:=p.2.2.1.2) (by rw[h.1];decide);omega
theorem Q63(p:DProgram)(hs:Qg p)(hw:WfP p):F4g p=some (Qc p):=by
 obtain⟨_,s2,s3⟩:=hs
 have:=J3m p.2.2.2.2 (fun c=>Q6a p.1 p.2.1 c) (.inr ():Bool ⊕ Unit) (.inl false) (fun i=>Fac p p.2.2.2 (p.2.2.2.2.length:Int) i) (fun i h=>by
  rw[FacE,gTo,gTo,gTo,J2 _ _ i h,Qg2 p _ (s3 _ (K4 h)).2.1 (hw.2 _ (K4 h)),J0,up1o i,J1]
  cases Q6a p.1 p.2.1 p.2.2.2.2[i]<;>rfl) (by
  rw[FacE,gFo])
 rw[F4gE,Qct p _ hw.1,J0,Q2g,J0,this];unfold Qc
 by_cases h2:Qb p.1 p.2.1 p.2.2.1.2=2
 ·by_cases h5:1≤p.2.2.2.2.length∧p.2.2.2.2.length≤6
  ·rw[bF (by simp[h2]),bF (by simp;omega),h2];simp only[h5,and_self,decide_true,J0]
   cases p.2.2.2.2.all fun c=>Q6a p.1 p.2.1 c<;>rfl
  ·rw[bF (by simp[h2]),bT (by simp;omega)];simp[h5]
 ·rw[bT (by simp[h2]),beqF h2];rfl
theorem Q5x(p:DProgram)(hs:Qg p):F8v p.2.2.2 (p,())=some (p.2.2.2.2.any fun c=> !Q6a p.1 p.2.1 c):=by
 obtain⟨_,s2,s3⟩:=hs;rw[F8vE,F3mE]
 exact Jc (Ja p.2.2.2.2 (fun c=> !Q6a p.1 p.2.1 c) (fun i=>Fbe p.2.2.2 (p,()) (p.2.2.2.2.length:Int) i) (fun i h=>by
  rw[FbeE,gTo,gTo,gTo,J2 _ _ i h,F8pE,Qfv p _ (s3 _ (K4 h)).2.1,J0,J0,up1o i,J1]) (by rw[FbeE,gFo]))
theorem Q61(p:DProgram)(hs:Qg p):F4z p=some (Qc p):=by
 rw[F4zE,Q6m,J0,Q9y,J0,Q38,J0,Q5x p hs,J0];unfold Qc
 by_cases h2:Qb p.1 p.2.1 p.2.2.1.2=2
 ·have hin:=Q4w (t:=p.2.2.1.2) (by rw[h2];decide);rw[bF (by simp;omega),bF (by simp;omega),bF (by simp[h2]),h2]
  by_cases h3:(p.2.2.2.2.length:Int)<1
  ·have h5:¬(1≤p.2.2.2.2.length∧p.2.2.2.2.length≤6):=by omega
   rw[gT h3];simp[h5]
  ·by_cases h4:(p.2.2.2.2.length:Int)>6
   ·have h5:¬(1≤p.2.2.2.2.length∧p.2.2.2.2.length≤6):=by omega
    rw[gF h3,gT h4];simp[h5]
   ·have h5:1≤p.2.2.2.2.length∧p.2.2.2.2.length≤6:=by omega
    rw[gF h3,gF h4];simp[h5,List.not_any_eq_all_not]
 ·rw[beqF h2]
  by_cases a1:1≤p.1∧p.1≤64
  ·by_cases a2:1≤p.2.1∧p.2.1≤4
   ·rw[bF (by simp;omega),bF (by simp;omega),bT (by simp)];rfl
   ·rw[bF (by simp;omega),bT (by simp;omega)];rfl
  ·rw[bT (by simp;omega)];rfl
theorem Qhy(wide vars:Int):∀(l:List DChange) (p:Int),Q4o wide vars p l=true→∀d∈l,p<d.1∧d.1<vars∧Qb wide vars d.2.2=1:=by
 intro l
 induction l with
 |nil=>intro p _ d hd;simp at hd
 |cons c cs ih=>
  intro p h d hd;simp only[Q4o,K7,decide_eq_true_eq,beq_iff_eq]at h
  rcases Kd.1 hd with rfl|hd
  ·exact⟨h.1.1.1,h.1.1.2,h.1.2⟩
  ·have:=ih c.1 h.2 d hd;exact⟨by omega,this.2⟩
theorem Q7m{p:DProgram}(h:Qc p=true):∀c∈p.2.2.2.2,Qb p.1 p.2.1 c.1.2=2∧∀d∈c.2.2,0≤d.1∧d.1<p.2.1∧Qb p.1 p.2.1 d.2.2=1:=by
 intro c hc;simp only[Qc,K7]at h;have:=(K11.1 h.2.2) c hc;simp only[Q6a,K7,beq_iff_eq]at this;refine⟨this.1,fun d hd=> ?_⟩;have:=Qhy _ _ _ _ this.2 d hd;exact⟨by omega,this.2⟩
theorem Q8p{wide vars:Int}{t:List DNode}(h:(Qb wide vars t==2)=true):Qb wide vars t≠0:=by
 rw[beq_iff_eq]at h;omega
def Q18(p:DProgram):Bool:=Qc p&&decide (p.1*p.2.1≤5)
theorem Qgl{a b:Int}(ha:1≤a∧a≤64)(hb:1≤b∧b≤4):1≤a*b∧a*b≤256:=by
 have h1:1*1≤a*b:=Int.mul_le_mul ha.1 hb.1 (by omega) (by omega);have h2:a*b≤64*4:=Int.mul_le_mul ha.2 hb.2 (by omega) (by omega);omega
theorem Qjd(p:DProgram)(hs:Qg p)(hw:WfP p):F7f p=some (Q18 p):=by
 rw[F7fE,Q63 p hs hw,J0];unfold Q18
 cases h:Qc p with
 |false=>rfl
 |true=>
  obtain⟨a1,a2,a3,a4⟩:=Q2v h;have:=Qgl ⟨a1,a2⟩ ⟨a3,a4⟩;rw[wr (by omega)];rfl
theorem Q5f(p:DProgram)(hs:Qg p):F5q p=some (Q18 p):=by
 rw[F5qE,Q61 p hs,J0];unfold Q18
 cases h:Qc p with
 |false=>rfl
 |true=>
  obtain⟨a1,a2,a3,a4⟩:=Q2v h;have:=Qgl ⟨a1,a2⟩ ⟨a3,a4⟩;rw[wr (by omega)];rfl
theorem Q7q{p:DProgram}(h:Q18 p=true):Qc p=true∧1≤p.1∧p.1≤5∧1≤p.2.1∧p.2.1≤4∧p.1*p.2.1≤5∧1≤p.1*p.2.1:=by
 simp only[Q18,K7,decide_eq_true_eq]at h;obtain⟨a1,a2,a3,a4⟩:=Q2v h.1;have h1:=Qgl ⟨a1,a2⟩ ⟨a3,a4⟩;have h2:p.1*1≤p.1*p.2.1:=Int.mul_le_mul_of_nonneg_left a3 (by omega);exact⟨h.1,a1,by omega,a3,a4,h.2,h1.1⟩
theorem Q33(k:IntKind)(x:Int)(n:Nat)(h:n≤k.bits):bShr k x (n:Int)=x / 2^n:=by
 unfold bShr;rw[show min ((n:Int)).toNat k.bits=n by simp only[K3];omega,Int.fdiv_eq_ediv_of_nonneg _ (Int.le_of_lt (Int.pow_pos (by decide)))]
theorem Qc8(a:Nat)(h:a<2^64):bXor .u64 18446744073709551615 (a:Int)=((18446744073709551615-a:Nat):Int):=by
 have e:(BitVec.ofInt 64 18446744073709551615^^^BitVec.ofInt 64 (a:Int)).toNat =18446744073709551615-a:=by
  rw[show BitVec.ofInt 64 18446744073709551615=BitVec.allOnes 64 by decide,BitVec.allOnes_xor,BitVec.toNat_not,BitVec.ofInt_natCast,BitVec.toNat_ofNat,K2a h]
 show u64.wrap (((BitVec.ofInt 64 18446744073709551615^^^BitVec.ofInt 64 (a:Int)).toNat :Nat):Int)=_;rw[e];exact wru ⟨by omega,by omega⟩
theorem Q5b{wide a:Int}(hw:1≤wide∧wide≤64)(ha:U64 a):F1a wide a=some (a%(top wide+1)):=by
 obtain⟨n,rfl⟩:=Kc (show 0≤wide by omega);obtain⟨m,rfl⟩:=Kc ha.1
 have hm:m<2^64:=by have:=ha.2;simp;omega
 have e:((2:Int)^n)=((2^n:Nat):Int):=by simp
 rw[Qfb n m (by omega) hm,show min n 64=n by omega];simp only[top,K3,e];rw[show((2^n:Nat):Int)-1+1=((2^n:Nat):Int) by omega];rfl
theorem Q1v{wide a:Int}(hw:1≤wide∧wide≤64)(ha:U64 a):bAnd .u64 a (top wide)=a%(top wide+1):=by
 obtain⟨n,rfl⟩:=Kc (show 0≤wide by omega);obtain⟨m,rfl⟩:=Kc ha.1
 have e:((2:Int)^n)=((2^n:Nat):Int):=by simp
 have hm:m<2^64:=by have:=ha.2;simp;omega
 have hp:=J4f (n:=n) (by omega);have h0:0<(2:Nat)^n:=Nat.two_pow_pos _
 have e2:top ((n:Nat):Int)=((2^n-1:Nat):Int):=by
  simp only[top,K3,e];omega
 have e3:top ((n:Nat):Int)+1=((2^n:Nat):Int):=by rw[e2];omega
 rw[e3,e2,J8e m (2^n-1) hm (by simp;omega),Nat.and_two_pow_sub_one_eq_mod];rfl
theorem Qb2{wide a:Int}(hw:1≤wide∧wide≤64)(h0:0≤a)(h1:a≤top wide):U64 (bXor .u64 18446744073709551615 a)∧bXor .u64 18446744073709551615 a%(top wide+1)=top wide-a:=by
 obtain⟨n,rfl⟩:=Kc (show 0≤wide by omega);obtain⟨m,rfl⟩:=Kc h0
 have e:((2:Int)^n)=((2^n:Nat):Int):=by simp
 simp only[top,K3,e]at h1⊢;have h2:=J4f (n:=n) (by omega)
 have hm:m<2^64:=by simp;omega
 rw[Qc8 m hm];refine⟨⟨by omega,by omega⟩,?_⟩
 have hp:(2:Nat)^n*2^(64-n)=18446744073709551616:=by rw[←Nat.pow_add,show n+(64-n)=64 by omega]
 have hq:0<(2:Nat)^(64-n):=Nat.two_pow_pos _
 have h3:18446744073709551615-m=(2^n-1-m)+2^n*(2^(64-n)-1):=by
  rw[Nat.mul_sub,hp,Nat.mul_one];omega
 rw[h3,show((2^n:Nat):Int)-1+1=((2^n:Nat):Int) by omega,←Int.natCast_emod,Nat.add_mul_mod_self_left,K2a (by omega)];omega
theorem Qf9{wide:Int}(hw:1≤wide∧wide≤64):F1a wide 18446744073709551615=some (top wide):=by
 have ht:=Q5u hw;have h:=(Qb2 hw (Int.le_refl 0) (by omega)).2;rw[show(0:Int)=((0:Nat):Int)from rfl,Qc8 0 (by decide)]at h;rw[Q5b hw ⟨by omega,by omega⟩];congr 1;simpa using h
def W5(wide a:Int):Prop:=0≤a∧a≤top wide
theorem Qb0{wide a b:Int}(hw:1≤wide∧wide≤64)(ha:W5 wide a)(hb:W5 wide b):
  W5 wide (bAnd .u64 a b)∧W5 wide (bOr .u64 a b)∧W5 wide (bXor .u64 a b):=by
 obtain⟨n,rfl⟩:=Kc (show 0≤wide by omega);obtain⟨ha0,ha1⟩:=ha;obtain⟨hb0,hb1⟩:=hb;obtain⟨x,rfl⟩:=Kc ha0;obtain⟨y,rfl⟩:=Kc hb0
 have e:((2:Int)^n)=((2^n:Nat):Int):=by simp
 have hp:=J4f (n:=n) (by omega);simp only[top,K3,e]at ha1 hb1;have h0:0<(2:Nat)^n:=Nat.two_pow_pos _
 have hx:x<2^n:=by omega
 have hy:y<2^n:=by omega
 have h64:(2:Nat)^n≤2^64:=Nat.pow_le_pow_right (by decide) (by omega);have f1:=Nat.and_lt_two_pow x hy;have f2:=Nat.or_lt_two_pow hx hy;have f3:=Nat.xor_lt_two_pow hx hy;rw[J8e x y (K16 hx h64) (K16 hy h64),J93 x y (K16 hx h64) (K16 hy h64),Jg9 x y (K16 hx h64) (K16 hy h64)];simp only[W5,top,K3,e];omega
theorem Q5h{n:Nat}:top (n:Int)+1=((2^n:Nat):Int):=by
 have e:((2:Int)^n)=((2^n:Nat):Int):=by simp
 simp only[top,K3,e];omega
theorem W5.u64{wide a:Int}(hw:1≤wide∧wide≤64)(h:W5 wide a):U64 a:=⟨h.1,by have:=h.2;have:=Q5u hw;omega⟩
theorem Q1l{wide a:Int}(hw:1≤wide∧wide≤64)(h:W5 wide a):bAnd .u64 a (top wide)=a:=by
 rw[Q1v hw (h.u64 hw),Int.emod_eq_of_lt h.1 (by have:=h.2;omega)]
theorem Q56{wide a:Int}(hw:1≤wide∧wide≤64)(h:W5 wide a):Q3r wide a=true:=by
 rw[Q1p];exact⟨hw.1,hw.2,h.2⟩
theorem Q4y{wide q:Int}(hw:1≤wide∧wide≤64):W5 wide (q%(top wide+1)):=by
 have ht:=Q5u hw;exact⟨Int.emod_nonneg _ (by omega),by have:=Int.emod_lt_of_pos q (show 0<top wide+1 by omega);omega⟩
theorem Qc7(n:Int):U64 (u64.wrap n):=by
 rw[J51];exact⟨Int.emod_nonneg _ (by decide),Int.emod_lt_of_pos _ (by decide)⟩
theorem Q8s(wide:Int)(n:Nat):∀(x:Int),n<1000→F6v wide x (n:Int) false=some (x / 2^n):=by
 induction n with
 |zero=>
  intro x _;rw[F6vE,gFo];simp
 |succ n ih=>
  intro x h;rw[F6vE,gTo,cond_false,wru (by omega),show((n+1:Nat):Int)-1=(n:Int) by omega,show(1:Int)=((1:Nat):Int)from rfl,Q33 .u64 x 1 (by decide),ih _ (by omega),J0];congr 1;rw[Int.ediv_ediv_of_nonneg (by decide),Int.pow_succ,Int.mul_comm];rfl
theorem Q9z(wide:Int)(hw:1≤wide∧wide≤63)(n:Nat):∀(x:Int),n<1000→0≤x→x≤top wide→F6v wide x (n:Int) true=some (x*2^n%(top wide+1)):=by
 obtain⟨w,rfl⟩:=Kc (show 0≤wide by omega);have hM:=Q5h (n:=w);have hlt:(2:Nat)^w≤2^63:=Nat.pow_le_pow_right (by decide) (by omega);have hpos:0<(2:Nat)^w:=Nat.two_pow_pos _;simp at hlt
 induction n with
 |zero=>
  intro x _ h0 h1;rw[F6vE,gFo,show x*2^0=x by simp,Int.emod_eq_of_lt h0 (by omega)]
 |succ n ih=>
  intro x h h0 h1
  have e:bShl .u64 x 1=x*2:=by
   unfold bShl;rw[show min (toNat 1) u64.bits=1 by decide,wru (by omega)];omega
  rw[F6vE,gTo,cond_true,e,Q5b (by omega) ⟨by omega,by omega⟩,J0];have hm:=Int.emod_nonneg (x*2) (show top (w:Int)+1≠0 by omega);have hm2:=Int.emod_lt_of_pos (x*2) (show 0<top (w:Int)+1 by omega);rw[wru (by omega),show((n+1:Nat):Int)-1=(n:Int) by omega,ih _ (by omega) hm (by omega),J0];congr 1;rw[Int.mul_emod,Int.emod_emod_of_dvd _ (Int.dvd_refl _),←Int.mul_emod,Int.pow_succ,Int.mul_assoc,Int.mul_comm 2]
theorem Q82(wide:Int)(hw:1≤wide∧wide≤63)(a b:Int)(ha:W5 wide a)(hb:U64 b)(left:Bool):∃r,W5 wide r∧F13 wide a b left=some r∧∃q,F4w wide a b left=some q∧U64 q∧bAnd .u64 q (top wide)=r:=by
 obtain⟨a0,a1⟩:=ha;obtain⟨b0,b1⟩:=hb;have ht:=Q5u (wide:=wide) (by omega)
 have hz:bAnd .u64 0 (top wide)=0:=by rw[Q1v (by omega) ⟨by omega,by omega⟩];simp
 rw[F13E,F4wE,wru (by omega)]
 by_cases hge:b≥wide
 ·exact⟨0,⟨by omega,by omega⟩,by rw[gT hge],0,by rw[gT hge],⟨by omega,by omega⟩,hz⟩
 ·rw[gF hge,gF hge,gFo,gFo,J1];obtain⟨n,rfl⟩:=Kc b0;obtain⟨w,rfl⟩:=Kc (show 0≤wide by omega);have hM:=Q5h (n:=w);have hpos:0<(2:Nat)^w:=Nat.two_pow_pos _
  have hn64:min ((n:Int)).toNat (u64.bits)=n:=by simp only[K3,IntKind.bits];omega
  cases left with
  |true=>
   have hm:=Int.emod_nonneg (a*2^n) (show top (w:Int)+1≠0 by omega);have hm2:=Int.emod_lt_of_pos (a*2^n) (show 0<top (w:Int)+1 by omega)
   have hq:U64 (bShl .u64 a (n:Int)):=by
    unfold bShl;exact Qc7 _
   have e1:=Q1v (wide:=(w:Int)) (by omega) hq
   have e2:bShl .u64 a (n:Int)%(top (w:Int)+1)=a*2^n%(top (w:Int)+1):=by
    unfold bShl;rw[hn64,J51,hM]
    have:(18446744073709551616:Int)=((2^w:Nat):Int)*((2^(64-w):Nat):Int):=by
     rw[←Int.natCast_mul,←Nat.pow_add,show w+(64-w)=64 by omega];decide
    rw[this,Int.emod_emod_of_dvd _ (Int.dvd_mul_right _ _)]
   refine⟨a*2^n%(top (w:Int)+1),⟨hm,by omega⟩,Q9z (w:Int) (by omega) n a (by omega) a0 a1,bAnd .u64 (bShl .u64 a (n:Int)) (top (w:Int)),?_,?_,?_⟩
   ·rw[cond_true,Q3u (w:Int) (by omega),J0]
   ·rw[e1,e2];exact⟨hm,by omega⟩
   ·rw[e1,e2,Q1v (by omega) ⟨hm,by omega⟩,Int.emod_emod_of_dvd _ (Int.dvd_refl _)]
  |false=>
   have hp:(0:Int)<2^n:=Int.pow_pos (by decide);have h1:0≤a / 2^n:=Int.ediv_nonneg a0 (by omega);have h2:a / 2^n≤a:=Int.ediv_le_self _ a0;refine⟨a / 2^n,⟨h1,by omega⟩,Q8s (w:Int) n a (by omega),a / 2^n,?_,⟨h1,by omega⟩,?_⟩
   ·rw[cond_false,Q33 .u64 a n (by simp only[IntKind.bits];omega)]
   ·rw[Q1v (by omega) ⟨h1,by omega⟩,Int.emod_eq_of_lt h1 (by omega)]
theorem Q74:top 1=1:=by decide
theorem Qgt(a b:Int)(ha:U64 a)(hb:U64 b):bOr .u64 a b=bOr .u64 b a:=by
 obtain⟨x,rfl⟩:=Kc ha.1;obtain⟨y,rfl⟩:=Kc hb.1
 have hx:x<2^64:=by have:=ha.2;simp;omega
 have hy:y<2^64:=by have:=hb.2;simp;omega
 rw[J93 x y hx hy,J93 y x hy hx,Nat.or_comm]
theorem Qk5(n:Int):i64.wrap n=(n+9223372036854775808)%18446744073709551616-9223372036854775808:=by
 simp[IntKind.wrap,IntKind.bits,IntKind.signed];split<;>omega
def sgn(wide a:Int):Int:=if 2*a<top wide+1 then a else a-(top wide+1)
theorem Qcr(wide a:Int)(hw:1≤wide∧wide≤62)(ha:W5 wide a):F4s wide a=some (sgn wide a):=by
 obtain⟨a0,a1⟩:=ha;obtain⟨w,rfl⟩:=Kc (show 0≤wide by omega);obtain⟨v,rfl⟩:∃v,w=v+1:=⟨w-1,by omega⟩;have hM:=Q5h (n:=v+1);have hlt:(2:Nat)^(v+1)≤2^62:=Nat.pow_le_pow_right (by decide) (by omega);have hpos:0<(2:Nat)^v:=Nat.two_pow_pos _
 have h2:(2:Nat)^(v+1)=2*2^v:=by rw[Nat.pow_succ];omega
 simp at hlt
 have e0:u64.wrap (i64.wrap (((v+1:Nat):Int)-1))=(v:Int):=by
  rw[wr (by omega),show((v+1:Nat):Int)-1=(v:Int) by omega,wru (by omega)]
 have e1:bShr .u64 a (v:Int)=a / 2^v:=Q33 .u64 a v (by simp only[IntKind.bits];omega)
 have hp:((2:Int)^v)=((2^v:Nat):Int):=by simp
 have hd0:0≤a / 2^v:=Int.ediv_nonneg a0 (by omega);have hd1:a / 2^v≤a:=Int.ediv_le_self _ a0
 have e2:bAnd .u64 (a / 2^v) 1=a / 2^v%2:=by
  have:=Q1v (wide:=1) (by omega) (a:=a / 2^v) ⟨hd0,by omega⟩;rw[Q74]at this;exact this
 rw[F4sE,e0,gFo,e1,e2,Qf9 (by omega),J0];have hlt2:a / 2^v<2:=Int.ediv_lt_of_lt_mul (by omega) (by omega);simp only[sgn]
 by_cases hb:2*a<top ((v+1:Nat):Int)+1
 ·have h3:a / 2^v=0:=Int.ediv_eq_zero_of_lt a0 (by omega);rw[h3,bF (by decide),if_pos hb,wr (by omega)]
 ·have h3:a / 2^v=1:=by
   have:1≤a / 2^v:=(Int.le_ediv_iff_mul_le (by omega)).2 (by omega);omega
  rw[h3,bT (by decide),if_neg hb];have hx:=Qc8 (2^(v+1)-1) (by simp;omega)
  have ht:top ((v+1:Nat):Int)=((2^(v+1)-1:Nat):Int):=by omega
  rw[ht,hx]
  have hmod:((18446744073709551615-(2^(v+1)-1):Nat):Int)%2^(v+1)=0:=by
   have e5:18446744073709551615-(2^(v+1)-1)=2^(v+1)*(2^(64-(v+1))-1):=by
    rw[Nat.mul_sub,←Nat.pow_add,show v+1+(64-(v+1))=64 by omega];omega
   rw[e5,Int.natCast_mul]
   have:((2:Int)^(v+1))=((2^(v+1):Nat):Int):=by simp
   rw[this,Int.mul_emod_right]
  have hj:bOr .u64 ((18446744073709551615-(2^(v+1)-1):Nat):Int) a=((18446744073709551615-(2^(v+1)-1):Nat):Int)+a:=
   bits_join .u64 64 (by decide) (fun n h0 h1=>wru ⟨h0,by simpa using h1⟩) (v+1) ((18446744073709551615-(2^(v+1)-1):Nat):Int) a (by omega) hmod (by simp;omega) a0 (by
    have:((2:Int)^(v+1))=((2^(v+1):Nat):Int):=by simp
    omega) (by simp;omega)
  rw[Qgt a _ ⟨a0,by omega⟩ ⟨by omega,by omega⟩,hj];congr 1;rw[Qk5];omega
theorem signed(wide a:Int)(hw:1≤wide∧wide≤62)(ha:W5 wide a):F1f wide a=some (sgn wide a):=by
 obtain⟨a0,a1⟩:=ha;obtain⟨w,rfl⟩:=Kc (show 0≤wide by omega);have hM:=Q5h (n:=w);have hpos:0<(2:Nat)^w:=Nat.two_pow_pos _;have hq:0<(2:Nat)^(64-w):=Nat.two_pow_pos _
 have hmul:(2:Nat)^w*2^(64-w)=18446744073709551616:=by rw[←Nat.pow_add,show w+(64-w)=64 by omega]
 have e0:i64.wrap (64-(w:Int))=((64-w:Nat):Int):=by rw[wr (by omega)];omega
 rw[F1fE,e0,gFo,gFo,Q33 .i64 _ (64-w) (by simp only[IntKind.bits];omega)]
 have hn64:min (((64-w:Nat):Int)).toNat (u64.bits)=64-w:=by simp only[K3,IntKind.bits];omega
 have hp:((2:Int)^(64-w))=((2^(64-w):Nat):Int):=by simp
 unfold bShl;rw[hn64,hp];generalize hQ:2^(64-w)=Q at *;generalize hW:2^w=V at *;obtain⟨x,rfl⟩:=Kc a0
 have hx:x<V:=by omega
 have hxm:x*Q<V*Q:=(Nat.mul_lt_mul_right hq).2 hx
 have e1:u64.wrap ((x:Int)*(Q:Int))=((x*Q:Nat):Int):=by rw[←Int.natCast_mul,wru (by omega)]
 rw[e1];congr 1;unfold sgn
 by_cases hb:2*(x:Int)<top (w:Int)+1
 ·rw[if_pos hb]
  have h3:2*(x*Q)<V*Q:=by
   have:(2*x)*Q<V*Q:=(Nat.mul_lt_mul_right hq).2 (by omega);rwa[Nat.mul_assoc]at this
  rw[wr (by omega),Int.natCast_mul,Int.mul_ediv_cancel _ (by omega)]
 ·rw[if_neg hb]
  have h3:V*Q≤2*(x*Q):=by
   have:V*Q≤(2*x)*Q:=Kr _ (by omega);rwa[Nat.mul_assoc]at this
  have e4:i64.wrap ((x*Q:Nat):Int)=((x:Int)-(V:Int))*(Q:Int):=by
   have e5:((x:Int)-(V:Int))*(Q:Int)=((x*Q:Nat):Int)-18446744073709551616:=by
    rw[Int.sub_mul,←Int.natCast_mul,←Int.natCast_mul,hmul];rfl
   rw[e5,Qk5];omega
  rw[e4,Int.mul_ediv_cancel _ (by omega),hM]
theorem Q4r{wide a b:Int}(hw:1≤wide∧wide≤64)(ha:W5 wide a)(hb:W5 wide b)(h:b≠0):W5 wide (a / b)∧W5 wide (a%b):=by
 obtain⟨a0,a1⟩:=ha;obtain⟨b0,b1⟩:=hb;have h1:=Int.ediv_le_self b a0;have h2:=Int.emod_lt_of_pos a (show 0<b by omega);exact⟨⟨Int.ediv_nonneg a0 b0,by omega⟩,⟨Int.emod_nonneg a h,by omega⟩⟩
theorem Qkh{wide a b:Int}(hw:1≤wide∧wide≤64)(ha:W5 wide a)(hb:W5 wide b):
  F8k wide a b=some (if b=0 then top wide else a / b,if b=0 then a else a%b,true)∧F66 wide a b=some (if b=0 then top wide else a / b,if b=0 then a else a%b,true):=by
 have ua:=ha.u64 hw;have ub:=hb.u64 hw;constructor
 ·rw[F8kE,F8uE,Q3c wide a ua,Q3c wide b ub,Q56 hw ha,Q56 hw hb];simp only[J0,cond_true];rw[bF (by rfl)]
  by_cases h:b=0
  ·rw[bT (by simpa using h),Qf9 hw,if_pos h,if_pos h];rfl
  ·have hd:=Q4r hw ha hb h;have hu:=hd.1.u64 hw;have hf:(b==0)=false:=beqF h;rw[hf,cond_false,cond_false,cond_false,if_neg h,if_neg h,Int.tdiv_eq_ediv_of_nonneg ha.1,Int.tmod_eq_emod_of_nonneg ha.1,wru hu]
 ·rw[F66E,F70E,Q37,Q37,Q56 hw ha,Q56 hw hb];simp only[J0,cond_true];rw[bF (by rfl)]
  by_cases h:b=0
  ·rw[bT (by simpa using h),Q3u wide hw,if_pos h,if_pos h];rfl
  ·have hd:=Q4r hw ha hb h;have hu:=hd.1.u64 hw;have hf:(b==0)=false:=beqF h;have hb0:=hb.1;rw[F88E,hf,cond_false,cond_false,gFo,bT (by rfl),cond_false,cond_false,J0,if_neg h,if_neg h,Int.tdiv_eq_ediv_of_nonneg ha.1,Int.tmod_eq_emod_of_nonneg ha.1,wru hu]
theorem Qel(c:Bool):F23 c=some (if c=true then 1 else 0)∧Fp c=some (if c=true then 1 else 0):=by
 rw[F23E,FpE];cases c<;>exact⟨rfl,rfl⟩
theorem Qj7(wide op a b:Int)(hw:1≤wide∧wide≤62)(ha:W5 wide a)(hb:W5 wide b)(ho:(3≤op∧op≤12)∨(14≤op∧op≤18)):
  ∃r,W5 wide r∧((op=14∨op=15∨op=16∨((op=17∨op=18)∧a≤1∧b≤1))→r≤1)∧F86 wide op a b=some r∧F5t wide op a b=some r:=by
 have hw':1≤wide∧wide≤64:=by omega
 have ht:=Q5u hw';have hm:=Q3u wide hw';obtain⟨hb1,hb2,hb3⟩:=Qb0 hw' ha hb;obtain⟨hD,hI⟩:=Qkh hw' ha hb
 have hbool:∀c:Bool,W5 wide (if c=true then 1 else 0)∧(if c=true then(1:Int)else 0)≤1:=by
  intro c;cases c
  ·exact⟨⟨by simp,by simp;omega⟩,by simp⟩
  ·exact⟨⟨by simp,by simp;omega⟩,by simp⟩
 rw[F86E,F5tE,hD,J0]
 rcases(show op=3∨op=4∨op=5∨op=6∨op=7∨op=8∨op=9∨op=10∨op=11∨op=12∨op=14∨op=15∨op=16∨op=17∨op=18 by omega)with rfl|rfl|rfl|rfl|rfl|rfl|rfl|rfl|rfl|rfl|rfl|rfl|rfl|rfl|rfl
 all_goals simp only[show∀x y:Int,(x==y)=decide (x=y)from fun x y=>rfl,decide_true,cond_true,cond_false,Int.reduceEq,decide_false,hm,J0,J1]
 ·exact⟨_,Q4y hw',by simp,Q5b hw' (Qc7 _),by rw[Q1v hw' (Qc7 _)]⟩
 ·exact⟨_,Q4y hw',by simp,Q5b hw' (Qc7 _),by rw[Q1v hw' (Qc7 _)]⟩
 ·exact⟨_,Q4y hw',by simp,Q5b hw' (Qc7 _),by rw[Q1v hw' (Qc7 _)]⟩
 ·have hr:W5 wide (if b=0 then top wide else a / b):=by
   by_cases h:b=0
   ·rw[if_pos h];exact⟨by omega,Int.le_refl _⟩
   ·rw[if_neg h];exact(Q4r hw' ha hb h).1
  exact⟨_,hr,by simp,rfl,by rw[hI,J0];dsimp only;rw[Q1l hw' hr]⟩
 ·have hr:W5 wide (if b=0 then a else a%b):=by
   by_cases h:b=0
   ·rw[if_pos h];exact ha
   ·rw[if_neg h];exact(Q4r hw' ha hb h).2
  exact⟨_,hr,by simp,rfl,by rw[hI,J0];dsimp only;rw[Q1l hw' hr]⟩
 ·exact⟨_,hb1,by simp,rfl,by rw[Q1l hw' hb1]⟩
 ·exact⟨_,hb2,by simp,rfl,by rw[Q1l hw' hb2]⟩
 ·exact⟨_,hb3,by simp,rfl,by rw[Q1l hw' hb3]⟩
 ·obtain⟨r,h1,h2,q,h3,h4,h5⟩:=Q82 wide (by omega) a b ha (hb.u64 hw') true;exact⟨r,h1,by simp,h2,by rw[h3,J0,h5]⟩
 ·obtain⟨r,h1,h2,q,h3,h4,h5⟩:=Q82 wide (by omega) a b ha (hb.u64 hw') false;exact⟨r,h1,by simp,h2,by rw[h3,J0,h5]⟩
 ·have hc:=hbool (decide (a=b));exact⟨_,hc.1,fun _=>hc.2,(Qel _).1,by rw[(Qel _).2,J0,Q1l hw' hc.1]⟩
 ·have hc:=hbool (decide (a<b));exact⟨_,hc.1,fun _=>hc.2,(Qel _).1,by rw[(Qel _).2,J0,Q1l hw' hc.1]⟩
 ·have hc:=hbool (decide (sgn wide a<sgn wide b));rw[Qcr wide a hw ha,Qcr wide b hw hb,signed wide a hw ha,signed wide b hw hb];simp only[J0];exact⟨_,hc.1,fun _=>hc.2,(Qel _).1,by rw[(Qel _).2,J0,Q1l hw' hc.1]⟩
 ·refine⟨_,hb1,fun h=> ?_,rfl,by rw[Q1l hw' hb1]⟩
  have h1:W5 1 a∧W5 1 b:=by
   simp at h;have ha0:=ha.1;have hb0:=hb.1;have e:=Q74;unfold W5;omega
  have:=(Qb0 (wide:=1) (by omega) h1.1 h1.2).1.2;rw[Q74]at this;exact this
 ·refine⟨_,hb2,fun h=> ?_,rfl,by rw[Q1l hw' hb2]⟩
  have h1:W5 1 a∧W5 1 b:=by
   simp at h;have ha0:=ha.1;have hb0:=hb.1;have e:=Q74;unfold W5;omega
  have:=(Qb0 (wide:=1) (by omega) h1.1 h1.2).2.1.2;rw[Q74]at this;exact this
def Qai{V:Type}(f:DNode→List V→V)(st:List V)(x:DNode):List V:=
 st.take (st.length-(need x.1).1.toNat)++[f x (st.drop (st.length-(need x.1).1.toNat))]
def Qf{V:Type}(f:DNode→List V→V)(t:List DNode)(i:Nat):List V:=(t.take i).foldl (Qai f) []
theorem Q25{V:Type}(f:DNode→List V→V)(t:List DNode)(i:Nat)(h:i<t.length):Qf f t (i+1)=Qai f (Qf f t i) t[i]:=by
 unfold Qf;rw[K1f h,List.foldl_append];rfl
def Qjp{V:Type}(f:DNode→List V→V)(t:List DNode):Prop:=∀i (h:i<t.length),(need t[i].1).1.toNat ≤(Qf f t i).length
theorem Qlx{V:Type}(f:DNode→List V→V)(t:DLN)(ht:t.2.length≤48)(he:Qjp f t.2):∀(n i:Nat),i≤n→i<t.2.length→
  ∃j:Nat,j≤i∧F33 t (i:Int)=some (j:Int)∧∃v,Qf f t.2 (i+1)=Qf f t.2 j++[v]:=by
 intro n
 induction n with
 |zero=>
  intro i hi h
  obtain rfl:i=0:=by omega
  obtain⟨m,hm,hm2⟩:=Q4z t.2[0].1;have hen:=he 0 h;have hz:Qf f t.2 0=[]:=rfl;rw[hm,hz]at hen;simp at hen;subst hen;refine⟨0,by omega,?_,?_⟩
  ·rw[F33E,gTo,gTo,show t.2.getD (toNat ((0:Nat):Int)) (0,0)=t.2[0]from J2 t.2 _ 0 h,Qcs,J0,hm,Fa3E,gFo];rfl
  ·rw[Q25 f t.2 0 h,hz];simp only[Qai,List.take_nil];exact⟨_,rfl⟩
 |succ n ih=>
  intro i hi h;obtain⟨m,hm,hm2⟩:=Q4z t.2[i].1;have hen:=he i h;simp only[hm,K3]at hen
  have e0:F33 t (i:Int)=Fa3 t (m:Int) (i:Int):=by
   rw[F33E,gTo,gTo,J2 t.2 _ i h,Qcs,J0,hm,J1]
  have es:Qf f t.2 (i+1)=(Qf f t.2 i).take ((Qf f t.2 i).length -m)++[f t.2[i] ((Qf f t.2 i).drop ((Qf f t.2 i).length -m))]:=by
   rw[Q25 f t.2 i h];simp only[Qai,hm,K3]
  rcases(show m=0∨m=1∨m=2 by omega)with rfl|rfl|rfl
  ·refine⟨i,by omega,?_,f t.2[i] ((Qf f t.2 i).drop ((Qf f t.2 i).length -0)),?_⟩
   ·rw[e0,Fa3E,gFo]
   ·rw[es,Nat.sub_zero,List.take_length]
  ·have hi0:0<i:=by
    rcases Nat.eq_zero_or_pos i with rfl|h0
    ·have hz:Qf f t.2 0=[]:=rfl;rw[hz]at hen;simp at hen
    ·exact h0
   obtain⟨j,hj,ej,v,ev⟩:=ih (i-1) (by omega) (by omega);rw[show i-1+1=i by omega]at ev;refine⟨j,by omega,?_,?_⟩
   ·rw[e0,Fa3E,gTo,dn1 i (by omega) hi0,ej,J0,Fa3E,gF (by rw[wr (by omega)];omega)];rfl
   ·rw[es,ev];simp only[Kf,K1c,Nat.add_sub_cancel];rw[List.take_left' rfl];exact⟨_,rfl⟩
  ·have hi0:0<i:=by
    rcases Nat.eq_zero_or_pos i with rfl|h0
    ·have hz:Qf f t.2 0=[]:=rfl;rw[hz]at hen;simp at hen
    ·exact h0
   obtain⟨j,hj,ej,v,ev⟩:=ih (i-1) (by omega) (by omega);rw[show i-1+1=i by omega]at ev
   have hj0:0<j:=by
    rcases Nat.eq_zero_or_pos j with rfl|h0
    ·rw[ev]at hen;have hz:Qf f t.2 0=[]:=rfl;rw[hz]at hen;simp at hen
    ·exact h0
   obtain⟨j2,hj2,ej2,v2,ev2⟩:=ih (j-1) (by omega) (by omega);rw[show j-1+1=j by omega]at ev2;refine⟨j2,by omega,?_,?_⟩
   ·rw[e0,Fa3E,gTo,dn1 i (by omega) hi0,ej,J0,Fa3E,gT (by rw[wr (by omega)];omega),dn1 j (by omega) hj0,ej2,J0,Fa3E,gF (by rw[wr (by rw[wr (by omega)];omega),wr (by omega)];omega)];rfl
   ·rw[es,ev,ev2];simp only[Kj,Kf,K1c,List.cons_append,Kt,Kq,K1m];rw[show(Qf f t.2 j2).length +(0+1+1)-2=(Qf f t.2 j2).length by omega,List.take_left' rfl];exact⟨_,rfl⟩
theorem Q2r{V:Type}(f:DNode→List V→V)(t:List DNode):Qf f t 0=[]:=rfl
theorem Q41{V:Type}(f:DNode→List V→V)(st args:List V)(x:DNode){p:Int×Int}(m:Nat)(hn:need x.1=((m:Int),p))(hm:args.length=m):Qai f (st++args) x=st++[f x args]:=by
 simp only[Qai,hn,K3]
 have:(st++args).length -m=st.length:=by rw[Kf];omega
 rw[this,List.take_left' rfl,List.drop_left' rfl]
theorem Q7t{wide vars:Int}{ks ks':List Int}{x:DNode}(h:Q6n wide vars ks x=some ks'):
  (need x.1).2.2 ≠0∧Q2z wide vars x.1 x.2=true∧(need x.1).1.toNat ≤ks.length∧(ks.drop (ks.length-(need x.1).1.toNat)).all (fun y=>y==(need x.1).2.1)=true∧ks'=ks.take (ks.length-(need x.1).1.toNat)++[(need x.1).2.2]:=by
 unfold Q6n at h;split at h
 ·simp at h
 ·split at h
  ·split at h
   ·simp at h
   ·split at h
    ·rename_i h1 h2 h3 h4;simp only[K0]at h;refine⟨h1,h2,?_,h4,h.symm⟩;obtain⟨m,hm,_⟩:=Q4z x.1;rw[hm]at h3⊢;omega
    ·simp at h
  ·simp at h
theorem Qgm{op:Int}{m p o:Int}(h:need op=(m,p,o))(ho:o≠0):(m=0∧o=1∧(op=1∨op=2))∨(m=0∧o=2∧op=20)∨(m=1∧p=1∧o=1∧op=13)∨(m=1∧p=2∧o=2∧op=19)∨(m=2∧p=1∧o=1∧3≤op∧op≤12)∨(m=2∧p=1∧o=2∧14≤op∧op≤16)∨(m=2∧p=2∧o=2∧(op=17∨op=18)):=by
 unfold need at h
 by_cases c1:op=1∨op=2
 ·rw[if_pos c1]at h;cases h;exact .inl ⟨rfl,rfl,c1⟩
 rw[if_neg c1]at h
 by_cases c2:op=20
 ·rw[if_pos c2]at h;cases h;exact .inr (.inl ⟨rfl,rfl,c2⟩)
 rw[if_neg c2]at h
 by_cases c3:op=13
 ·rw[if_pos c3]at h;cases h;exact .inr (.inr (.inl ⟨rfl,rfl,rfl,c3⟩))
 rw[if_neg c3]at h
 by_cases c4:op=19
 ·rw[if_pos c4]at h;cases h;exact .inr (.inr (.inr (.inl ⟨rfl,rfl,rfl,c4⟩)))
 rw[if_neg c4]at h
 by_cases c5:3≤op∧op≤12
 ·rw[if_pos c5]at h;cases h;exact .inr (.inr (.inr (.inr (.inl ⟨rfl,rfl,rfl,c5⟩))))
 rw[if_neg c5]at h
 by_cases c6:14≤op∧op≤16
 ·rw[if_pos c6]at h;cases h;exact .inr (.inr (.inr (.inr (.inr (.inl ⟨rfl,rfl,rfl,c6⟩)))))
 rw[if_neg c6]at h
 by_cases c7:op=17∨op=18
 ·rw[if_pos c7]at h;cases h;exact .inr (.inr (.inr (.inr (.inr (.inr ⟨rfl,rfl,rfl,c7⟩)))))
 rw[if_neg c7]at h;cases h;exact absurd rfl ho
noncomputable def ap(wide op a b:Int):Int:=(F5t wide op a b).getD 0
theorem Qaw(wide op a b:Int)(hw:1≤wide∧wide≤62)(ha:W5 wide a)(hb:W5 wide b)(ho:(3≤op∧op≤12)∨(14≤op∧op≤18)):
  W5 wide (ap wide op a b)∧((op=14∨op=15∨op=16∨((op=17∨op=18)∧a≤1∧b≤1))→ap wide op a b≤1)∧F86 wide op a b=some (ap wide op a b)∧F5t wide op a b=some (ap wide op a b):=by
 obtain⟨r,h1,h2,h3,h4⟩:=Qj7 wide op a b hw ha hb ho
 have e:ap wide op a b=r:=by
  unfold ap;rw[h4];rfl
 rw[e];exact⟨h1,h2,h3,h4⟩
noncomputable def vop(wide:Int)(s:List Int)(x:DNode):List Int→Int
 |[]=>if x.1=2 then s.getD x.2.toNat 0 else x.2
 |[b]=>if x.1=13 then top wide-b else 1-b
 |[a,b]=>ap wide x.1 a b
 |_=>0
inductive TypedV (wide:Int):List Int→List Int→Prop
 |nil:TypedV wide [] []
 |snoc {ks st:List Int} {k v:Int}:TypedV wide ks st→W5 wide v→(k=2→v≤1)→TypedV wide (ks++[k]) (st++[v])
theorem TypedV.inv{wide:Int}{ks st:List Int}(h:TypedV wide ks st):(ks=[]∧st=[])∨∃ks' st' k v,ks=ks'++[k]∧st=st'++[v]∧TypedV wide ks' st'∧W5 wide v∧(k=2→v≤1):=by
 cases h with
 |nil=>exact .inl ⟨rfl,rfl⟩
 |snoc h1 h2 h3=>exact .inr ⟨_,_,_,_,rfl,rfl,h1,h2,h3⟩
theorem TypedV.len{wide:Int}{ks st:List Int}(h:TypedV wide ks st):ks.length=st.length:=by
 induction h with
 |nil=>rfl
 |snoc _ _ _ ih=>simp[ih]
theorem Qc5(wide:Int)(hw:1≤wide∧wide≤62)(s:List Int)(hs:∀v∈s,W5 wide v)(x:DNode)(hx:U64 x.2){ks ks' st:List Int}
  (h:Q6n wide (s.length:Int) ks x=some ks')(ht:TypedV wide ks st):TypedV wide ks' (Qai (vop wide s) st x):=by
 obtain⟨h1,h2,h3,h4,rfl⟩:=Q7t h;have he:=Q5u (wide:=wide) (by omega);obtain⟨m,p,o,hn⟩:∃m p o,need x.1=(m,p,o):=⟨_,_,_,rfl⟩;have hlen:=ht.len;simp only[Qai,hn]at h1 h3 h4⊢;rw[←hlen]
 rcases Qgm hn h1 with⟨rfl,rfl,ho⟩|⟨rfl,rfl,ho⟩|⟨rfl,rfl,rfl,ho⟩|⟨rfl,rfl,rfl,ho⟩|⟨rfl,rfl,rfl,ho⟩|⟨rfl,rfl,rfl,ho⟩|⟨rfl,rfl,rfl,ho⟩
 ·simp only[Int.toNat_zero,Nat.sub_zero,List.take_length];rw[hlen,List.take_length,List.drop_length];refine .snoc ht ?_ (fun h=>absurd h (by decide));unfold Q2z at h2
  rcases ho with ho|ho
  ·rw[if_pos ho,Q1p]at h2;simp only[vop,ho];exact⟨hx.1,h2.2.2⟩
  ·rw[if_neg (by omega),if_pos ho,decide_eq_true_eq]at h2;simp only[vop,ho,if_true];apply hs;rw[K1,Ka (by have:=hx.1;omega)];exact K4 _
 ·simp only[Int.toNat_zero,Nat.sub_zero,List.take_length];rw[hlen,List.take_length,List.drop_length];unfold Q2z at h2;rw[if_neg (by omega),if_neg (by omega),if_pos ho,decide_eq_true_eq]at h2;have h0:=hx.1
  have hne:¬x.1=2:=by omega
  refine .snoc ht ?_ (fun _=> ?_)
  ·simp only[vop,if_neg hne];exact⟨h0,by omega⟩
  ·simp only[vop,if_neg hne];omega
 ·rcases ht.inv with⟨rfl,rfl⟩|⟨ks,st,k,v,rfl,rfl,t1,t2,t3⟩
  ·simp at h3
  ·have l1:=t1.len
   have e1:(ks++[k]).length -(1:Int).toNat =ks.length:=by simp
   rw[e1];rw[List.take_left' rfl,List.take_left' l1.symm,List.drop_left' l1.symm];simp only[vop,ho,if_true];refine .snoc t1 ?_ (fun h=>absurd h (by decide));obtain⟨f1,f2⟩:=t2;exact⟨by omega,by omega⟩
 ·rcases ht.inv with⟨rfl,rfl⟩|⟨ks,st,k,v,rfl,rfl,t1,t2,t3⟩
  ·simp at h3
  ·have l1:=t1.len
   have e1:(ks++[k]).length -(1:Int).toNat =ks.length:=by simp
   rw[e1]at h4⊢;rw[List.drop_left' rfl]at h4
   have hk:k=2:=by simpa using h4
   rw[List.take_left' rfl,List.take_left' l1.symm,List.drop_left' l1.symm]
   have hne:¬x.1=13:=by omega
   simp only[vop,if_neg hne];obtain⟨f1,f2⟩:=t2;have f4:=t3 hk;exact .snoc t1 ⟨by omega,by omega⟩ (fun _=>by omega)
 all_goals
  rcases ht.inv with⟨rfl,rfl⟩|⟨ks,st,k,v,rfl,rfl,t1,t2,t3⟩
  ·simp at h3
  ·rcases t1.inv with⟨rfl,rfl⟩|⟨ks,st,k',v',rfl,rfl,s1,s2,s3⟩
   ·simp at h3
   ·have l1:=s1.len
    have e1:(ks++[k']++[k]).length -(2:Int).toNat =ks.length:=by simp
    rw[e1]at h4⊢;rw[Kj]at h4;rw[List.drop_left' rfl]at h4;simp only[List.cons_append,Kt,List.all_cons,List.all_nil,Bool.and_true,K7,beq_iff_eq]at h4;rw[Kj ks,Kj st,List.take_left' rfl,List.take_left' l1.symm,List.drop_left' l1.symm];obtain⟨q1,q2,_⟩:=Qaw wide x.1 v' v hw s2 t2 (by omega);refine .snoc s1 q1 ?_
    first
     |(intro h;exact absurd h (by decide))
     |(intro _;exact q2 (by first|omega|exact .inr (.inr (.inr ⟨ho,s3 h4.1,t3 h4.2⟩))))
theorem Qaq(wide:Int)(hw:1≤wide∧wide≤62)(s:List Int)(hs:∀v∈s,W5 wide v)(t:List DNode)(hx:∀x∈t,U64 x.2){r:List Int}(h:Q2y wide (s.length:Int) t []=some r):
  ∀i,i≤t.length→∃ks,Q2y wide (s.length:Int) (t.drop i) ks=some r∧TypedV wide ks (Qf (vop wide s) t i):=by
 intro i
 induction i with
 |zero=>exact fun _=>⟨[],h,.nil⟩
 |succ i ih=>
  intro hi;obtain⟨ks,h1,h2⟩:=ih (by omega);rw[K2 (by omega)]at h1;simp only[Q2y,Ki]at h1;obtain⟨ks',h3,h4⟩:=h1;exact⟨ks',h4,by rw[Q25 _ _ _ (by omega)];exact Qc5 wide hw s hs _ (hx _ (K4 _)) h3 h2⟩
theorem Q76(wide:Int)(hw:1≤wide∧wide≤62)(s:List Int)(hs:∀v∈s,W5 wide v)(t:List DNode)(hx:∀x∈t,U64 x.2){r:List Int}(h:Q2y wide (s.length:Int) t []=some r)(i:Nat)(hi:i<t.length):
  Q2z wide (s.length:Int) t[i].1 t[i].2 =true∧
  (((t[i].1 =1∨t[i].1 =2∨t[i].1 =20)∧need t[i].1 =(0,(need t[i].1).2))∨
   ((t[i].1 =13∨t[i].1 =19)∧need t[i].1 =(1,(need t[i].1).2)∧∃st b,Qf (vop wide s) t i=st++[b]∧W5 wide b∧(t[i].1 =19→b≤1))∨
   (((3≤t[i].1 ∧t[i].1 ≤12)∨(14≤t[i].1 ∧t[i].1 ≤18))∧need t[i].1 =(2,(need t[i].1).2)∧∃st a b,Qf (vop wide s) t i=st++[a,b]∧W5 wide a∧W5 wide b)):=by
 obtain⟨ks,h1,h2⟩:=Qaq wide hw s hs t hx h i (by omega);rw[K2 hi]at h1;simp only[Q2y,Ki]at h1;obtain⟨ks',h3,_⟩:=h1;obtain⟨g1,g2,g3,g4,_⟩:=Q7t h3;refine⟨g2,?_⟩;obtain⟨m,p,o,hn⟩:∃m p o,need t[i].1 =(m,p,o):=⟨_,_,_,rfl⟩;generalize Qf (vop wide s) t i=st at h2⊢;simp only[hn]at g1 g3 g4⊢
 rcases Qgm hn g1 with⟨rfl,rfl,ho⟩|⟨rfl,rfl,ho⟩|⟨rfl,rfl,rfl,ho⟩|⟨rfl,rfl,rfl,ho⟩|⟨rfl,rfl,rfl,ho⟩|⟨rfl,rfl,rfl,ho⟩|⟨rfl,rfl,rfl,ho⟩
 ·exact .inl ⟨by omega,rfl⟩
 ·exact .inl ⟨by omega,rfl⟩
 ·rcases h2.inv with⟨rfl,rfl⟩|⟨ks,st,k,v,rfl,rfl,t1,t2,t3⟩
  ·simp at g3
  ·exact .inr (.inl ⟨.inl ho,rfl,st,v,rfl,t2,fun h=>by omega⟩)
 ·rcases h2.inv with⟨rfl,rfl⟩|⟨ks,st,k,v,rfl,rfl,t1,t2,t3⟩
  ·simp at g3
  ·have e1:(ks++[k]).length -(1:Int).toNat =ks.length:=by simp
   rw[e1,List.drop_left' rfl]at g4;exact .inr (.inl ⟨.inr ho,rfl,st,v,rfl,t2,fun _=>t3 (by simpa using g4)⟩)
 all_goals
  rcases h2.inv with⟨rfl,rfl⟩|⟨ks,st,k,v,rfl,rfl,t1,t2,t3⟩
  ·simp at g3
  ·rcases t1.inv with⟨rfl,rfl⟩|⟨ks,st,k',v',rfl,rfl,s1,s2,s3⟩
   ·simp at g3
   ·exact .inr (.inr ⟨by omega,rfl,st,v',v,by simp,s2,t2⟩)
theorem Qj2(wide b:Int)(hw:1≤wide∧wide≤62)(hb:W5 wide b):bAnd .u64 (bXor .u64 18446744073709551615 b) (top wide)=top wide-b:=by
 obtain⟨h1,h2⟩:=Qb2 (wide:=wide) (by omega) hb.1 hb.2;rw[Q1v (by omega) h1,h2]
theorem Qen(wide:Int)(hw:1≤wide∧wide≤62)(s:DLI)(hl:s.2.length≤1000)(hs:∀v∈s.2,W5 wide v)(t:DLN)(ht:t.2.length≤1000)(hx:WfN t.2){r:List Int}(h:Q2y wide (s.2.length:Int) t.2 []=some r)(d:Nat):
  ∀(i:Nat) (b:Bool),i+d=t.2.length→(Qf (vop wide s.2) t.2 i).length ≤i→
  ∃b',F3i wide s (b,Qf (vop wide s.2) t.2 i) t (t.2.length:Int) (i:Int)=some (b',Qf (vop wide s.2) t.2 t.2.length):=by
 have he:=Q5u (wide:=wide) (by omega);have hlim:=J4
 induction d with
 |zero=>
  intro i b hi hst
  obtain rfl:i=t.2.length:=by omega
  rw[F3iE,gFo];exact⟨b,rfl⟩
 |succ d ih=>
  intro i b0 hi hst
  have hlt:i<t.2.length:=by omega
  have hu:=hx _ (K4 hlt)
  have go:=fun b=>ih (i+1) b (by omega)
  obtain⟨hlf,hop⟩:=Q76 wide hw s.2 hs t.2 hx h i hlt;have es:=Q25 (vop wide s.2) t.2 i hlt;rw[F3iE,gTo,gTo,gTo,J2 t.2 _ i hlt];simp only[up1o i];unfold Q2z at hlf;generalize hS:Qf (vop wide s.2) t.2 i=st at *
  rcases hop with⟨ho,hn⟩|⟨ho,hn,st,b,rfl,fb,hb⟩|⟨ho,hn,st,a,b,rfl,fa,fb⟩
  ·have e1:=Q41 (vop wide s.2) st [] t.2[i] 0 hn rfl;rw[K1l]at e1;rw[es,e1]at go;obtain⟨b',g⟩:=go (b0&&false) (by simp;omega);refine⟨b',?_⟩
   rcases ho with ho|ho|ho
   ·have e2:vop wide s.2 t.2[i] []=t.2[i].2 :=by simp[vop,ho]
    rw[e2]at g;rw[ho,bT (by rfl),bT (by rfl),gT (by simp;omega),g];rfl
   ·have e2:vop wide s.2 t.2[i] []=s.2.getD t.2[i].2.toNat 0:=by simp[vop,ho]
    rw[e2]at g;rw[if_neg (by omega),if_pos ho,decide_eq_true_eq]at hlf;have hu0:=hu.1;rw[ho,bF (by rfl),bF (by rfl),bT (by rfl),gT hu0,gT hlf,gT (by simp;omega),g];rfl
   ·have e2:vop wide s.2 t.2[i] []=t.2[i].2 :=by simp[vop,ho]
    rw[e2]at g;rw[ho,bF (by rfl),bT (by rfl),gT (by simp;omega),g];rfl
  ·have e1:=Q41 (vop wide s.2) st [b] t.2[i] 1 hn rfl;rw[es,e1]at go;obtain⟨b',g⟩:=go b0 (by simp;simp at hst;omega);refine⟨b',?_⟩
   have hlen1:(st++[b]).length =st.length+1:=by simp
   have e3:i64.wrap (((st++[b]).length :Int)-1)=(st.length:Int):=by
    rw[hlen1,wr (by omega)];omega
   have e4:(st++[b]).getD (toNat (st.length:Int)) 0=b:=by simp
   have e5:∀v:Int,(st++[b]).set (toNat (st.length:Int)) v=st++[v]:=fun v=>by simp
   have e6:(st.length:Int)<((st++[b]).length :Int):=by omega
   have fb':=fb;obtain⟨f1,f2⟩:=fb;rw[e3,e4]
   rcases ho with ho|ho
   ·have e2:vop wide s.2 t.2[i] [b]=top wide-b:=by simp[vop,ho]
    rw[e2]at g;rw[ho,bF (by rfl),bF (by rfl),bF (by rfl),bT (by rfl),gTo,gT e6,Q3u wide (by omega),J0,gTo,gT e6,e5,Qj2 wide b hw fb',g];rfl
   ·have e2:vop wide s.2 t.2[i] [b]=1-b:=by simp[vop,ho]
    rw[e2]at g;have hb1:=hb ho;rw[ho,bF (by rfl),bF (by rfl),bF (by rfl),bF (by rfl),bT (by rfl),gTo,gT e6,gTo,gT e6,e5,wru (by omega),g];rfl
  ·have e1:=Q41 (vop wide s.2) st [a,b] t.2[i] 2 hn rfl;rw[es,e1]at go;obtain⟨b',g⟩:=go (b0&&false) (by simp;simp at hst;omega);refine⟨b',?_⟩
   have hlen:(st++[a,b]).length =st.length+2:=by simp
   have e3:i64.wrap (((st++[a,b]).length :Int)-1)=((st.length+1:Nat):Int):=by rw[hlen,wr (by omega)];omega
   have e3':i64.wrap (((st.length+1:Nat):Int)-1)=(st.length:Int):=by rw[wr (by omega)];omega
   have e4:(st++[a,b]).getD (toNat ((st.length+1:Nat):Int)) 0=b:=by simp[K1]
   have e4':(st++[a,b]).getD (toNat (st.length:Int)) 0=a:=by simp[K1]
   have e2:vop wide s.2 t.2[i] [a,b]=ap wide t.2[i].1 a b:=rfl
   have e7:((st++[a,b]).take (toNat (st.length:Int))).drop 0=st:=by simp
   rw[e2]at g;rw[e3,e3',e4,e4',e7,hlen,bF (beqF (by omega)),bF (beqF (by omega)),bF (beqF (by omega)),bF (beqF (by omega)),bF (beqF (by omega)),gTo,gTo,gTo,gTo,gTo,gTo,(Qaw wide t.2[i].1 a b hw fa fb ho).2.2.2,J0,gT (by simp;omega),g];rfl
theorem Qkv(wide:Int)(hw:1≤wide∧wide≤62)(s:DLI)(hl:s.2.length≤1000)(hs:∀v∈s.2,W5 wide v)(t:DLN)(ht:t.2.length≤48)(hx:WfN t.2){r:List Int}(h:Q2y wide (s.2.length:Int) t.2 []=some r):
  ∀(n i:Nat),i≤n→i<t.2.length→∃st v,Qf (vop wide s.2) t.2 (i+1)=st++[v]∧F56 wide t (i:Int) s=some v:=by
 have hen:Qjp (vop wide s.2) t.2:=by
  intro i hi;obtain⟨_,hop⟩:=Q76 wide hw s.2 hs t.2 hx h i hi
  rcases hop with⟨ho,hn⟩|⟨ho,hn,st,b,e,fb,hb⟩|⟨ho,hn,st,a,b,e,fa,fb⟩
  ·rw[hn];simp
  ·rw[hn,e];simp
  ·rw[hn,e];simp
 have he:=Q5u (wide:=wide) (by omega);intro n
 induction n using Nat.strongRecOn with
 |_ n ih=>
  intro i hi hlt;have hu:=hx _ (K4 hlt);obtain⟨hlf,hop⟩:=Q76 wide hw s.2 hs t.2 hx h i hlt;rw[Q25 _ _ _ hlt,F56E,gTo,gTo,J2 t.2 _ i hlt,Qcs,J0]
  have hpos:∀{x:List Int},0<x.length→Qf (vop wide s.2) t.2 i=x→0<i:=by
   intro x hl e
   rcases Nat.eq_zero_or_pos i with rfl|h0
   ·rw[Q2r]at e;subst e;simp at hl
   ·exact h0
  rcases hop with⟨ho,hn⟩|⟨ho,hn,st,b,e,fb,hb⟩|⟨ho,hn,st,a,b,e,fa,fb⟩
  ·refine⟨Qf (vop wide s.2) t.2 i,vop wide s.2 t.2[i] [],?_,?_⟩
   ·have:=Q41 (vop wide s.2) (Qf (vop wide s.2) t.2 i) [] t.2[i] 0 hn rfl;rwa[K1l]at this
   ·have h20:(need t.2[i].1).1 =0:=by rw[hn]
    unfold Q2z at hlf
    by_cases h2:t.2[i].1 =2
    ·rw[if_neg (by omega),if_pos h2,decide_eq_true_eq]at hlf;have hu0:=hu.1;rw[bT (by simpa using h2),gT hu0,gT hlf];simp only[vop,if_pos h2]
    ·rw[bF (beqF h2),h20,bT (by rfl)];simp only[vop,if_neg h2]
  ·have h0:=hpos (by simp) e;obtain⟨st',v,g1,g2⟩:=ih (i-1) (by omega) (i-1) (by omega) (by omega);rw[show i-1+1=i by omega,e]at g1;have q0:st=st'∧[b]=[v]:=List.append_inj' g1 rfl
   have q0':v=b:=by have:=q0.2;simp at this;exact this.symm
   subst q0';refine⟨st,vop wide s.2 t.2[i] [v],?_,?_⟩
   ·rw[e];exact Q41 (vop wide s.2) st [v] t.2[i] 1 hn rfl
   ·have h20:(need t.2[i].1).1 =1:=by rw[hn]
    rw[bF (beqF (by omega)),h20,bF (by rfl),dn1 i (by omega) h0,g2];obtain⟨f1,f2⟩:=fb;obtain⟨q1,q2⟩:=Qb2 (wide:=wide) (by omega) f1 f2
    rcases ho with ho|ho
    ·rw[ho,bT (by rfl),J0,Q5b (by omega) q1,J0,q2];simp only[vop,ho,if_true]
    ·have hb1:=hb ho;rw[ho,bF (by rfl),bT (by rfl),J0,wru (by omega)];simp only[vop,ho];rfl
  ·have h0:=hpos (by simp) e;obtain⟨j,hj,q2,v2,q3⟩:=Qlx (vop wide s.2) t ht hen (i-1) (i-1) (by omega) (by omega);rw[show i-1+1=i by omega,e]at q3;have q4:st++[a]=Qf (vop wide s.2) t.2 j∧[b]=[v2]:=List.append_inj' (by rw[←q3];simp) rfl;obtain⟨q5,q6⟩:=q4
   have hj0:0<j:=by
    rcases Nat.eq_zero_or_pos j with rfl|hj0
    ·rw[Q2r]at q5;simp at q5
    ·exact hj0
   obtain⟨st1,v1,g1,g2⟩:=ih (j-1) (by omega) (j-1) (by omega) (by omega);rw[show j-1+1=j by omega,←q5]at g1;obtain⟨st3,v3,g3,g4⟩:=ih (i-1) (by omega) (i-1) (by omega) (by omega);rw[show i-1+1=i by omega,e]at g3;have r1:st=st1∧[a]=[v1]:=List.append_inj' g1 rfl;have r3:st++[a]=st3∧[b]=[v3]:=List.append_inj' (by rw[←g3];simp) rfl
   have r1':v1=a:=by have:=r1.2;simp at this;exact this.symm
   have r3':v3=b:=by have:=r3.2;simp at this;exact this.symm
   subst r1' r3';refine⟨st,vop wide s.2 t.2[i] [v1,v3],?_,?_⟩
   ·rw[e];exact Q41 (vop wide s.2) st [v1,v3] t.2[i] 2 hn rfl
   ·have h20:(need t.2[i].1).1 =2:=by rw[hn]
    rw[bF (beqF (by omega)),h20,bF (by rfl),bF (beqF (by omega)),bF (beqF (by omega)),dn1 i (by omega) h0,q2,J0,dn1 j (by omega) hj0,g2,J0,g4,J0,(Qaw wide t.2[i].1 v1 v3 hw fa fb ho).2.2.1,J0];rfl
noncomputable def valT(wide:Int)(s:List Int)(t:List DNode):Int:=(Qf (vop wide s) t t.length).getD 0 0
theorem Q42(wide:Int)(hw:1≤wide∧wide≤62)(s:DLI)(hl:s.2.length≤1000)(hs:∀v∈s.2,W5 wide v)(t:DLN)(hx:WfN t.2)(hk:Qb wide (s.2.length:Int) t.2≠0):
  W5 wide (valT wide s.2 t.2)∧(Qb wide (s.2.length:Int) t.2=2→valT wide s.2 t.2≤1)∧F56 wide t (i64.wrap ((t.2.length:Int)-1)) s=some (valT wide s.2 t.2)∧Fx wide t s=some (valT wide s.2 t.2):=by
 obtain⟨_,_,_,_,hl1,hl2⟩:=Q4w hk
 have hne:t.2≠[]:=by intro h;rw[h]at hl1;simp at hl1
 obtain⟨hf,_⟩:=Q7s hk hne;obtain⟨ks,h3,h4⟩:=Qaq wide hw s.2 hs t.2 hx hf t.2.length (Kz _);rw[List.drop_length]at h3;simp only[Q2y,K0]at h3;subst h3;obtain⟨st,v,h1,h2⟩:=Qkv wide hw s hl hs t hl2 hx hf t.2.length (t.2.length-1) (by omega) (by omega);rw[show t.2.length-1+1=t.2.length by omega]at h1;have h5:=h4.inv;rw[h1]at h5
 rcases h5 with⟨h5,_⟩|⟨ks',st',k',v',e1,e2,h6,h7,h8⟩
 ·simp at h5
 ·have hk0:[]=ks'∧[Qb wide (s.2.length:Int) t.2]=[k']:=List.append_inj' (s₁:=[]) e1 rfl;have hv0:st=st'∧[v]=[v']:=List.append_inj' e2 rfl;obtain⟨rfl,e3⟩:=hk0;obtain⟨rfl,e4⟩:=hv0;simp only[K10,and_true]at e3 e4;subst e3 e4;have hlen:=h6.len;have hst:st=[]:=K22 (by simpa using hlen.symm);subst hst
  have hval:valT wide s.2 t.2=v:=by unfold valT;rw[h1];rfl
  rw[hval];refine⟨h7,h8,?_,?_⟩
  ·rw[dn1 t.2.length (by omega) (by omega),h2]
  ·obtain⟨b',g⟩:=Qen wide hw s hl hs t (by omega) hx hf t.2.length 0 false (by omega) (by simp[Q2r]);rw[Q2r,h1]at g;rw[FxE];have g':F3i wide s (false,[]) t (t.2.length:Int) 0=some (b',[]++[v]):=g;rw[g',J0,gT (by simp)];rfl
def Qda(wide no:Int)(i:Nat):Int:=no / 2^(wide.toNat*i)%(top wide+1)
def Qe(p:DProgram)(no:Int):List Int:=(List.range p.2.1.toNat).map (Qda p.1 no)
structure Sml (p:DProgram):Prop where
 w1:1≤p.1
 w2:p.1≤5
 v1:1≤p.2.1
 v2:p.2.1≤4
 a1:p.1*p.2.1≤5
 a2:1≤p.1*p.2.1
theorem Qc9{p:DProgram}(h:Q18 p=true):Sml p:=by
 obtain⟨_,h1,h2,h3,h4,h5,h6⟩:=Q7q h;exact⟨h1,h2,h3,h4,h5,h6⟩
theorem Q2s{p:DProgram}(hp:Sml p)(no:Int):∀v∈Qe p no,W5 p.1 v:=by
 intro v hv;obtain⟨i,_,rfl⟩:=Kx.1 hv;exact Q4y ⟨hp.w1,by have:=hp.w2;omega⟩
theorem Q2b{p:DProgram}(hp:Sml p)(no:Int):((Qe p no).length :Int)=p.2.1:=by
 have:=hp.v1;simp[Qe];omega
theorem Q2k(i:Nat)(h:i<63):bShl .i64 1 (i:Int)=((2^i:Nat):Int):=by
 unfold bShl
 have e:min ((i:Int)).toNat (i64.bits)=i:=by
  simp only[K3,IntKind.bits];omega
 rw[e,Int.one_mul];have h2:(2:Nat)^i<2^63:=Nat.pow_lt_pow_right (by decide) h
 have h3:((2^i:Nat):Int)<((2^63:Nat):Int):=by exact_mod_cast h2
 have h4:(0:Int)≤((2^i:Nat):Int):=Int.natCast_nonneg _;rw[wr]
 ·simp
 ·simp at h4 h3;omega
def Q4(p:DProgram):Nat:=2^(p.1*p.2.1).toNat
theorem Qa{p:DProgram}(hp:Sml p):2≤Q4 p∧Q4 p≤32:=by
 have h1:=hp.a1;have h2:=hp.a2;unfold Q4;have h3:(2:Nat)^1≤2^(p.1*p.2.1).toNat :=Nat.pow_le_pow_right (by decide) (by omega);have h4:(2:Nat)^(p.1*p.2.1).toNat ≤2^5:=Nat.pow_le_pow_right (by decide) (by omega);simp at h3 h4;omega
theorem Qa3{p:DProgram}(hp:Sml p):F5m p=some (Q4 p:Int):=by
 have h1:=hp.a1;have h2:=hp.a2;obtain⟨n,hn⟩:=Kc (show 0≤p.1*p.2.1 by omega);rw[F5mE,Q4,hn];rw[hn]at h1;rw[wr (by omega),wru (by omega),gFo,Q2k n (by omega),K3]
theorem Q1e{p:DProgram}(hp:Sml p):F52 p=some (Q4 p:Int):=by
 have h1:=hp.a1;have h2:=hp.a2;obtain⟨n,hn⟩:=Kc (show 0≤p.1*p.2.1 by omega);rw[F52E,Q4,hn];rw[hn]at h1;rw[wr (by omega),gFo,Q2k n (by omega),K3]
theorem Q8a{w i:Nat}(h:(w:Int)*(i:Int)≤5):w*i≤5:=by
 rw[←Int.natCast_mul]at h;omega
theorem Q84{p:DProgram}(hp:Sml p)(no:Int)(i:Nat)(hi:(i:Int)<p.2.1)(hn:0≤no∧no<1000):
  ∃a q:Int,0≤a∧u64.wrap (i64.wrap ((i:Int)*p.1))=a∧i64.wrap (p.1*(i:Int))=a∧bShr .i64 no a=q∧bShr .u64 (u64.wrap no) a=q∧0≤q∧q≤no∧Qda p.1 no i=q%(top p.1+1):=by
 have h1:p.1*(i:Int)≤p.1*p.2.1:=Int.mul_le_mul_of_nonneg_left (by omega) (by have:=hp.w1;omega);have h2:=hp.a1;have h3:=hp.w1;obtain⟨w,hw⟩:=Kc (show 0≤p.1 by omega);rw[hw]at h1 h2⊢;have hwi:=Q8a (w:=w) (i:=i) (by omega)
 have e1:(w:Int)*(i:Int)=((w*i:Nat):Int):=by simp
 refine⟨((w*i:Nat):Int),no / 2^(w*i),Int.natCast_nonneg _,?_,?_,?_,?_,Int.ediv_nonneg hn.1 (Int.le_of_lt (Int.pow_pos (by decide))),Int.ediv_le_self _ hn.1,rfl⟩
 ·rw[Int.mul_comm,e1,wr (by omega),wru (by omega)]
 ·rw[e1,wr (by omega)]
 ·exact Q33 .i64 no _ (by simp only[IntKind.bits];omega)
 ·rw[wru (by omega)];exact Q33 .u64 no _ (by simp only[IntKind.bits];omega)
theorem Qiv(w:Nat)(h:w≤5):i64.wrap (bShl .i64 1 (w:Int)-1)=2^w-1:=by
 have hp:(2:Nat)^w≤2^5:=Nat.pow_le_pow_right (by decide) h;have h0:0<(2:Nat)^w:=Nat.two_pow_pos w;rw[Q2k w (by omega),wr (by omega)];simp
theorem Qkc(q:Int)(w:Nat)(hq:0≤q∧q<1000)(h:w≤5):bAnd .i64 q (2^w-1)=q%2^w:=
 bits_mask .i64 63 (by decide) (fun n h0 h1=>wr ⟨by omega,by simpa using h1⟩) w (by omega) _ hq.1 (by simp;omega)
theorem l7Of{p:DProgram}(hp:Sml p)(no:Int)(hn:0≤no∧no<1000):F2l p no=some (false,Qe p no):=by
 obtain⟨h1,h2,h3,h4,h5,h6⟩:=hp;have hp:Sml p:=⟨h1,h2,h3,h4,h5,h6⟩;have hlim:=J4;obtain⟨v,hv⟩:=Kc (show 0≤p.2.1 by omega);obtain⟨w,hw⟩:=Kc (show 0≤p.1 by omega)
 have key:∀(d i:Nat) (b:Bool) (out:List Int),i+d=v→out.length=i→Fb1 no p (b,out) (i:Int)=some ((if d=0 then b else false),out++(List.range' i d).map (Qda p.1 no)):=by
  intro d
  induction d with
  |zero=>
   intro i b out hi ho;rw[Fb1E,gFo];simp
  |succ d ih=>
   intro i b out hi ho;obtain⟨a,q,p0,f1,f2,f3,f4,q0,q1,fw⟩:=Q84 hp no i (by omega) hn;have e3:=Qiv w (by omega);have e5:=Qkc q w ⟨q0,by omega⟩ (by omega)
   have e6:((2:Int)^w)=top p.1+1:=by rw[hw,Q5h];simp
   have hu:=(Q4y (wide:=p.1) (q:=q) (by omega)).u64 (wide:=p.1) (by omega);rw[Fb1E,gTo,f1,gFo,wru (by omega),gFo,hw,e3,f3,e5,e6,wru hu,gT (by simp;omega),up1o i,ih (i+1) _ _ (by omega) (by simp;omega),←fw,J0];simp[K1a,hw]
 have:=key v 0 true [] (by omega) rfl;rw[F2lE,Qe,K1g,hv,K3];have this':Fb1 no p (true,[]) 0=_:=this;rw[this',J0,if_neg (by omega)];rfl
theorem Q70{p:DProgram}(hp:Sml p)(no:Int)(hn:0≤no∧no<1000):F22 p no=some (false,Qe p no):=by
 obtain⟨h1,h2,h3,h4,h5,h6⟩:=hp;have hp:Sml p:=⟨h1,h2,h3,h4,h5,h6⟩;have hlim:=J4;obtain⟨v,hv⟩:=Kc (show 0≤p.2.1 by omega)
 have key:∀(d i:Nat) (out:List Int),i+d=v→out.length=i→F9r no p (false,out) p.2.1 (i:Int)=some (false,out++(List.range' i d).map (Qda p.1 no)):=by
  intro d
  induction d with
  |zero=>
   intro i out hi ho;rw[F9rE,gFo];simp
  |succ d ih=>
   intro i out hi ho;obtain⟨a,q,p0,f1,f2,f3,f4,q0,q1,fw⟩:=Q84 hp no i (by omega) hn;rw[F9rE,gTo,f2,gFo,Q3u p.1 (by omega),J0,f4,Q1v (wide:=p.1) (by omega) ⟨q0,by omega⟩,gT (by simp;omega),up1o i,K26,ih (i+1) _ (by omega) (by simp;omega),←fw,J0];simp[K1a]
 have:=key v 0 [] (by omega) rfl;rw[F22E,Qe,K1g,hv,K3];rw[hv]at this;have this':F9r no p (false,[]) (v:Int) 0=_:=this;rw[this',J0];rfl
noncomputable def Q9u(p:DProgram)(t:List DNode)(s:List Int):Bool:=valT p.1 s t==1
noncomputable def Qs(p:DProgram)(t:List DNode)(no:Int):Bool:=Q9u p t (Qe p no)
theorem Qdt{p:DProgram}(hp:Sml p)(t:DLN)(hx:WfN t.2)(hk:Qb p.1 p.2.1 t.2≠0)(b:Bool)(s:List Int)(hl:(s.length:Int)=p.2.1)(hs:∀v∈s,W5 p.1 v):
  F5l p t (b,s)=some (Q9u p t.2 s)∧F5f p t (b,s)=some (Q9u p t.2 s):=by
 have h1:=hp.w1;have h2:=hp.w2;have h3:=hp.v2;obtain⟨_,_,h4,h5⟩:=Q42 p.1 (by omega) (b,s) (by simp only;omega) hs t hx (by rw[show(((b,s):DLI).2.length :Int)=p.2.1 from hl];exact hk);exact⟨by rw[F5lE,h4];rfl,by rw[F5fE,h5];rfl⟩
theorem Q4v{p:DProgram}(hp:Sml p)(t:DLN)(hx:WfN t.2)(hk:Qb p.1 p.2.1 t.2≠0)(b:Bool)(no:Int):
  F5l p t (b,Qe p no)=some (Qs p t.2 no)∧F5f p t (b,Qe p no)=some (Qs p t.2 no):=
 Qdt hp t hx hk b _ (Q2b hp no) (Q2s hp no)
theorem Q9t{p:DProgram}(hp:Sml p)(t:DLN)(hx:WfN t.2)(hk:Qb p.1 p.2.1 t.2≠0)(b:Bool)(no:Int):
  F5l p t (b,Qe p no)=some (Qs p t.2 no):=by
 have h1:=hp.w1;have h2:=hp.w2;have h3:=hp.v2;have hl:=Q2b hp no;obtain⟨_,_,h4,_⟩:=Q42 p.1 (by omega) (b,Qe p no) (by simp only;omega) (Q2s hp no) t hx (by rw[show(((b,Qe p no):DLI).2.length :Int)=p.2.1 from hl];exact hk);rw[F5lE,h4];rfl
noncomputable def Q7(p:DProgram)(t:List DNode)(i d:Nat):List Int:=((List.range' i d).map Int.ofNat).filter (Qs p t)
theorem Q4h(p:DProgram)(t:List DNode)(i d:Nat):Q7 p t i (d+1)=(if Qs p t (i:Int)=true then[(i:Int)]else[])++Q7 p t (i+1) d:=by
 simp only[Q7,K1a,K12,K1n];cases hh:Qs p t (i:Int)<;>simp[hh]
theorem Q2d{p:DProgram}{t:List DNode}{n:Nat}{x:Int}:x∈Q7 p t 0 n↔(0≤x∧x<n)∧Qs p t x=true:=by
 simp only[Q7,K1e,Kx,List.mem_range'_1];constructor
 ·rintro⟨⟨a,h1,rfl⟩,h2⟩
  exact⟨⟨Int.natCast_nonneg _,by have:=h1.2;simp;omega⟩,h2⟩
 ·rintro⟨⟨h1,h2⟩,h3⟩
  exact⟨⟨x.toNat,by omega,K1t h1⟩,h3⟩
theorem Q3e(p:DProgram)(t:List DNode)(i d:Nat):(Q7 p t i d).length ≤d:=by
 refine K14 (K1q _ _) ?_;simp
theorem Qji{p:DProgram}(hp:Sml p)(t:DLN)(hx:WfN t.2)(hk:Qb p.1 p.2.1 t.2≠0):
  ∀(d i:Nat) (b:Bool) (out:List Int),i+d=Q4 p→out.length≤i→∃b',F83 t p (b,out) (i:Int)=some (b',out++Q7 p t.2 i d):=by
 have hm:=Qa hp;have hlim:=J4;intro d
 induction d with
 |zero=>
  intro i b out hi ho;rw[F83E,Qa3 hp,J0,gFo];exact⟨b,by simp[Q7]⟩
 |succ d ih=>
  intro i b out hi ho;rw[F83E,Qa3 hp,J0,gTo,l7Of hp _ (by omega),J0,Q9t hp t hx hk _ _,J0,Q4h,up1o i]
  cases hh:Qs p t.2 (i:Int)with
  |true=>
   obtain⟨b',g⟩:=ih (i+1) (b&&false) (out++[(i:Int)]) (by omega) (by simp;omega);exact⟨b',by rw[cond_true,gT (by simp;omega),g];simp⟩
  |false=>
   obtain⟨b',g⟩:=ih (i+1) b out (by omega) (by omega);exact⟨b',by rw[cond_false,g];simp⟩
theorem Qbp{p:DProgram}(hp:Sml p)(t:DLN)(hx:WfN t.2)(hk:Qb p.1 p.2.1 t.2≠0):∃b,F24 p t=some (b,Q7 p t.2 0 (Q4 p)):=by
 obtain⟨b,g⟩:=Qji hp t hx hk (Q4 p) 0 true [] (by omega) (by simp);have g':F83 t p (true,[]) 0=_:=g;exact⟨b,by rw[F24E,g'];rfl⟩
theorem Qjo{p:DProgram}(hp:Sml p)(t:DLN)(hx:WfN t.2)(hk:Qb p.1 p.2.1 t.2≠0):
  ∀(d i:Nat) (b:Bool) (out:List Int),i+d=Q4 p→out.length≤i→∃b',F7i t p (b,out) (Q4 p:Int) (i:Int)=some (b',out++Q7 p t.2 i d):=by
 have hm:=Qa hp;have hlim:=J4;intro d
 induction d with
 |zero=>
  intro i b out hi ho;rw[F7iE,gFo];exact⟨b,by simp[Q7]⟩
 |succ d ih=>
  intro i b out hi ho;rw[F7iE,gTo,Q70 hp _ (by omega),J0,(Q4v hp t hx hk _ _).2,J0,Q4h,up1o i]
  cases hh:Qs p t.2 (i:Int)with
  |true=>
   obtain⟨b',g⟩:=ih (i+1) (b&&false) (out++[(i:Int)]) (by omega) (by simp;omega);exact⟨b',by rw[cond_true,gT (by simp;omega),g];simp⟩
  |false=>
   obtain⟨b',g⟩:=ih (i+1) b out (by omega) (by omega);exact⟨b',by rw[cond_false,g];simp⟩
theorem Qlf{p:DProgram}(hp:Sml p)(t:DLN)(hx:WfN t.2)(hk:Qb p.1 p.2.1 t.2≠0):∃b,F29 p t=some (b,Q7 p t.2 0 (Q4 p)):=by
 obtain⟨b,g⟩:=Qjo hp t hx hk (Q4 p) 0 false [] (by omega) (by simp);have g':F7i t p (false,[]) (Q4 p:Int) 0=_:=g;exact⟨b,by rw[F29E,Q1e hp,J0,g'];rfl⟩
theorem Qcb{α ρ:Type}(l:List α)(q:α→Bool)(y:ρ)(F:Int→Option (ρ ⊕ Unit))
  (hs:∀(i:Nat) (h:i<l.length),F (i:Int)=bif q l[i]then some (.inl y)else F ((i+1:Nat):Int))(he:F (l.length:Int)=some (.inr ())):F 0=some (bif l.any q then .inl y else .inr ()):=by
 have:=J3m l (fun x=> !q x) (β:=ρ ⊕ Unit) (.inr ()) (.inl y) F (fun i h=>by rw[hs i h];cases q l[i]<;>rfl) he;rw[this,List.any_eq_not_all_not];cases(l.all fun x=> !q x)<;>rfl
theorem Qku(l:DLI)(n:Int)(hl:l.2.length≤1048576):F2n l n=some (l.2.any fun x=>x==n):=by
 rw[F2nE,Qcb l.2 (fun x=>x==n) true (fun i=>Fa5 n l (l.2.length:Int) i) (fun i h=>by
  rw[Fa5E,gTo,gTo,gTo,J2 l.2 _ i h,up1o i,J1]) (by rw[Fa5E,gFo]),J0]
 cases(l.2.any fun x=>x==n)<;>rfl
theorem Qca{α:Type}(l:List α)(q:α→Bool)(F:Int→Option (Bool ⊕ Unit))
  (hs:∀(i:Nat) (h:i<l.length),F (i:Int)=bif !q l[i]then some (.inl false)else F ((i+1:Nat):Int))(he:F (l.length:Int)=some (.inr ())):F 0=some (if l.all q=true then .inr ()else .inl false):=by
 have:=J3m l q (β:=Bool ⊕ Unit) (.inr ()) (.inl false) F (fun i h=>by rw[hs i h];cases q l[i]<;>rfl) he;rw[this];cases l.all q<;>rfl
theorem Qly(a b:DLI)(ha:a.2.length≤1048576)(hb:b.2.length≤1048576):F48 a b=some (a.2.any fun x=>b.2.any fun y=>y==x):=by
 rw[F48E,Qcb a.2 (fun x=>b.2.any fun y=>y==x) true (fun i=>Fci b a (a.2.length:Int) i) (fun i h=>by
  rw[FciE,gTo,gTo,gTo,J2 a.2 _ i h,up1o i,J1,Qku b _ hb,J0]) (by rw[FciE,gFo]),J0]
 cases(a.2.any fun x=>b.2.any fun y=>y==x)<;>rfl
theorem Ql{α:Type}(l:List α)(z:α)(i:Nat):l.getD (toNat (i:Int)) z=l.getD i z:=by rw[K3]
theorem Qkn(n:Nat)(h:n≤1099511627776):∃b,F6z (n:Int)=some (b,[]):=by
 have hlim:=J4
 have e:i64.wrap ((n:Int)-i64.wrap (0-0))=(n:Int):=by
  rw[show i64.wrap (0-0)=0 from wr (by omega),wr (by omega)];omega
 rw[F6zE,e,gFo]
 by_cases h0:n=0
 ·rw[gFo];exact⟨_,rfl⟩
 ·rw[gTo,gTo,gTo,gT (by simp;omega),gTo];exact⟨_,rfl⟩
theorem Q9g(s l:DRI)(d:Nat):∀(i k:Nat),i+d=l.2.length→k+((l.2.drop i).map fun x=>x.2.length).sum ≤1099511627776→l.2.length≤1099511627776→
  Fbh s (k:Int) l (l.2.length:Int) (i:Int)=some ((k+((l.2.drop i).map fun x=>x.2.length).sum :Nat):Int):=by
 induction d with
 |zero=>
  intro i k hi hk hl;rw[FbhE,gFo,K8 (by omega)];rfl
 |succ d ih=>
  intro i k hi hk hl
  have hlt:i<l.2.length:=by omega
  rw[K2 hlt]at hk⊢;simp only[K12,List.sum_cons]at hk⊢;rw[FbhE,gTo,gTo,gTo,J2 l.2 _ i hlt,show(k:Int)+(l.2[i].2.length :Int)=((k+l.2[i].2.length :Nat):Int) by omega,wr (by omega),gFo,up1o i,J1,ih (i+1) _ (by omega) (by omega) hl];congr 2;omega
theorem Q9h(l:DRI)(d:Nat):∀(i:Nat) (b:Bool) (out:List Int),i+d=l.2.length→out.length+((l.2.drop i).map fun x=>x.2.length).sum ≤1099511627776→l.2.length≤1099511627776→
  ∃b',Fau (b,out) l (l.2.length:Int) (i:Int)=some (b',out++((l.2.drop i).map fun x=>x.2).flatten):=by
 have hlim:=J4
 induction d with
 |zero=>
  intro i b out hi hk hl;rw[FauE,gFo,K8 (by omega)];exact⟨b,by simp⟩
 |succ d ih=>
  intro i b out hi hk hl
  have hlt:i<l.2.length:=by omega
  rw[K2 hlt]at hk⊢;simp only[K12,List.sum_cons,List.flatten_cons]at hk⊢;rw[FauE,gTo,gTo,gTo,J2 l.2 _ i hlt,gTs,up1o i,J1];obtain⟨b',g⟩:=ih (i+1) (b&&l.2[i].2.isEmpty) (out++l.2[i].2) (by omega) (by rw[Kf];omega) hl;exact⟨b',by rw[g];simp⟩
theorem Qf6(l:DRI)(h:(l.2.map fun x=>x.2.length).sum ≤1099511627776)(hl:l.2.length≤1099511627776):∃b,F1o l=some (b,(l.2.map fun x=>x.2).flatten):=by
 have h0:=Q9g l l l.2.length 0 0 (by omega) (by simpa using h) hl;rw[Kg,K1o]at h0;have h0':Fbh l 0 l (l.2.length:Int) 0=_:=h0;obtain⟨b1,h1⟩:=Qkn _ h;obtain⟨b2,h2⟩:=Q9h l l.2.length 0 b1 [] (by omega) (by simpa using h) hl;rw[Kg,Kt]at h2;have h2':Fau (b1,[]) l (l.2.length:Int) 0=_:=h2;exact⟨b2,by rw[F1oE,h0',J0,h1,J0,h2',J0]⟩
def Q2l:Int→List Int→Bool
 |_,[]=>true
 |c,x::l=>decide (0≤x∧x≤c)&&Q2l (if x=c then c+1 else c) l
def Q6(p:DProgram)(v:List Int):Bool:=Q18 p&&(decide ((v.length:Int)=Q4 p)&&Q2l 0 v)
theorem Qgx(l:List Int):∀c:Int,Q2l c l=true→∀x∈l,0≤x∧x≤c+l.length:=by
 induction l with
 |nil=>intro c _ x hx;simp at hx
 |cons y l ih=>
  intro c h x hx;simp only[Q2l,K7,decide_eq_true_eq]at h;simp only[Kq]
  rcases Kd.1 hx with rfl|hx
  ·omega
  ·have:=ih _ h.2 x hx;split at this<;>omega
theorem Qdy(n:Int)(v:DSight)(hl:v.2.length≤1048576)(d:Nat):∀(i:Nat) (c:Int),i+d=v.2.length→0≤c→c≤i→F7y n v c v (v.2.length:Int) (i:Int)=some (bif Q2l c (v.2.drop i)then .inr ()else .inl false):=by
 induction d with
 |zero=>
  intro i c hi h0 hc;rw[F7yE,gFo,K8 (by omega)];rfl
 |succ d ih=>
  intro i c hi h0 hc
  have hlt:i<v.2.length:=by omega
  rw[F7yE,gTo,gTo,gTo,J2 v.2 _ i hlt,up1o i,J1,J1,K2 hlt,Q2l]
  by_cases c3:v.2[i]<0
  ·rw[gT c3,decide_eq_false (by omega)];rfl
  ·rw[gF c3]
   by_cases c4:v.2[i]>c
   ·rw[gT c4,decide_eq_false (by omega)];rfl
   ·rw[gF c4,decide_eq_true (by omega),Ky]
    by_cases c2:v.2[i]=c
    ·rw[bT (by simpa using c2),if_pos c2,wr (by omega),ih (i+1) _ (by omega) (by omega) (by omega)]
    ·rw[bF (beqF c2),if_neg c2,ih (i+1) _ (by omega) (by omega) (by omega)]
theorem Q7i(p:DProgram)(hs:Qg p)(v:DSight)(hl:v.2.length≤1048576):F7q p v=some (Q6 p v.2):=by
 rw[F7qE,Q5f p hs,J0,Q6]
 cases h0:Q18 p with
 |false=>rfl
 |true=>
  have hp:=Qc9 h0;have h:=Qdy (Q4 p) v hl v.2.length 0 0 (by omega) (by omega) (by omega);have h':F7y (Q4 p) v 0 v (v.2.length:Int) 0=_:=h;rw[cond_true,Q1e hp,J0,F30E,h',J0,Ky,Kg]
  cases Q2l 0 v.2 with
  |false=>rw[K26];rfl
  |true=>rw[Bool.and_true];rfl
theorem Q2o{p:DProgram}{v:List Int}(h:Q6 p v=true):Sml p∧v.length=Q4 p∧∀x∈v,0≤x∧x≤32:=by
 simp only[Q6,K7,decide_eq_true_eq]at h;have hp:=Qc9 h.1;have hm:=Qa hp;exact⟨hp,by omega,fun x hx=>by have:=Qgx v 0 h.2.2 x hx;omega⟩
theorem Q9m(f g:Bool)(l:List Int)(hl:l.length≤1048576):F76 (f,l) (g,l)=some true:=by
 rw[F76E,Q49 f g l hl];rfl
theorem Qge(b:Bool)(x:List Int)(k:Int)(hl:x.length≤1048576)(h0:0≤k)(hk:k+x.length≤4000000000000000000):F6r (b,x) k=some ((b,Q1o k x.length),k+x.length):=by
 rw[F6rE,Q8v b x k hl h0 hk,J0]
def Q2w(v:List Int):Int:=v.foldl (fun m x=>if x≥m then x+1 else m) 0
theorem Qgb(l:List Int):∀m:Int,l.foldl (fun m x=>if x≥m then x+1 else m) (m+1)=l.foldl (fun m x=>if m<x then x else m) m+1:=by
 induction l with
 |nil=>intro m;rfl
 |cons x l ih=>
  intro m;simp only[K17]
  by_cases h:m<x
  ·rw[if_pos (by omega),if_pos h,ih x]
  ·rw[if_neg (by omega),if_neg h,ih m]
theorem Qfy(v:DSight)(hl:v.2.length≤1048576)(hin:∀x∈v.2,0≤x∧x≤32):F2p v=some (Q2w v.2):=by
 have:=Jy v.2 (fun m x=>if x≥m then x+1 else m) (fun m:Int=>m) (fun m i=>F8c m v (v.2.length:Int) i) (fun _ _=>True) (fun i h s _=>by
  have hx:=hin _ (K4 h);refine⟨?_,trivial⟩;rw[F8cE,gTo,gTo,gTo,J2 v.2 _ i h,up1o i,J1,J1,wr (by omega)]
  by_cases c:v.2[i]≥s
  ·rw[gT c,if_pos c]
  ·rw[gF c,if_neg c]) (fun s _=>by rw[F8cE,gFo]) 0 trivial
 rw[F2pE,this,J0,Q2w]
theorem Q5s(v:DSight)(hl:v.2.length≤1048576)(h0:0<v.2.length)(hin:∀x∈v.2,0≤x∧x≤32):F15 v=some (Q2w v.2):=by
 obtain⟨b,w⟩:=v
 match w,h0 with
 |x::w,_=>
  have key:∀(d i:Nat) (m:Int),i+d=(x::w).length →0≤m→m≤32→∃r,Fca (b,x::w) m (i:Int)=some r∧r=((x::w).drop i).foldl (fun m x=>if m<x then x else m) m∧0≤r∧r≤32:=by
   intro d
   induction d with
   |zero=>
    intro i m hi h0 h1;rw[FcaE,gF (by simp only;omega),K8 (by omega)];exact⟨m,rfl,rfl,h0,h1⟩
   |succ d ih=>
    intro i m hi h0 h1
    have hlt:i<(x::w).length :=by omega
    have hx:=hin _ (K4 hlt);rw[FcaE,gTs,gTo,gTs,J2 (x::w) _ i hlt,up1 i (by simp only at hl;omega),J1,K2 hlt,K17]
    by_cases c:m<(x::w)[i]
    ·rw[decide_eq_true c,cond_true,if_pos c];exact ih (i+1) _ (by omega) (by omega) (by omega)
    ·rw[decide_eq_false c,cond_false,if_neg c];exact ih (i+1) _ (by omega) (by omega) (by omega)
  have hx:=hin x Kk;obtain⟨r,e,e2,r0,r1⟩:=key w.length 1 x (by simp;omega) hx.1 hx.2;have e':Fca (b,x::w) ((x::w).getD 0 0) 1=some r:=e;rw[F15E,F42E,gF (by simp only[Kq];omega),gT (by simp only[Kq];omega),e',J0,J0,wr (by omega),Q2w,K17,if_pos hx.1,Qgb,e2];rfl
theorem Q3t(v:List Int)(hin:∀x∈v,0≤x∧x≤32):0≤Q2w v∧Q2w v≤33:=by
 have key:∀(l:List Int) (m:Int),(∀x∈l,0≤x∧x≤32)→0≤m→m≤33→0≤l.foldl (fun m x=>if x≥m then x+1 else m) m∧l.foldl (fun m x=>if x≥m then x+1 else m) m≤33:=by
  intro l
  induction l with
  |nil=>intro m _ h0 h1;exact⟨h0,h1⟩
  |cons x l ih=>
   intro m hx h0 h1;have h2:=hx x Kk;rw[K17];refine ih _ (fun y hy=>hx y (K9 _ hy)) ?_ ?_ <;>split<;>omega
 exact key v 0 hin (by omega) (by omega)
theorem Qjj:top 32=4294967295:=by decide
theorem Qix{x y:Int}(hx:0≤x∧x<65536)(hy:0≤y∧y<65536):F54 x y=some (0,x*y):=by
 have a1:bShr .u64 x 32=0:=by rw[show(32:Int)=((32:Nat):Int)from rfl,Q33 .u64 x 32 (by decide)];exact Int.ediv_eq_zero_of_lt hx.1 (by omega)
 have a2:bShr .u64 y 32=0:=by rw[show(32:Int)=((32:Nat):Int)from rfl,Q33 .u64 y 32 (by decide)];exact Int.ediv_eq_zero_of_lt hy.1 (by omega)
 have b1:bAnd .u64 x 4294967295=x:=by rw[←Qjj,Q1v (by omega) ⟨hx.1,by omega⟩,Qjj,Int.emod_eq_of_lt hx.1 (by omega)]
 have b2:bAnd .u64 y 4294967295=y:=by rw[←Qjj,Q1v (by omega) ⟨hy.1,by omega⟩,Qjj,Int.emod_eq_of_lt hy.1 (by omega)]
 have h0:0≤x*y:=Int.mul_nonneg hx.1 hy.1
 have h1:x*y<65536*65536:=by
  have:=Int.mul_le_mul (show x≤65535 by omega) (show y≤65535 by omega) hy.1 (by omega);omega
 have w0:u64.wrap 0=0:=wru (by omega);have w1:u64.wrap (x*y)=x*y:=wru (by omega)
 have s1:bShr .u64 (x*y) 32=0:=by rw[show(32:Int)=((32:Nat):Int)from rfl,Q33 .u64 _ 32 (by decide)];exact Int.ediv_eq_zero_of_lt h0 (by omega)
 have s0:bShr .u64 0 32=0:=by decide
 have c0:bAnd .u64 0 4294967295=0:=by decide
 rw[F54E,F8qE,a1,a2,b1,b2,w1,s1];simp only[Int.zero_mul,Int.mul_zero,Int.add_zero,w0,s0,c0,J0]
theorem Qgu{α:Type}(a b:Nat)(x:α):List.replicate (a+b) x=List.replicate a x++List.replicate b x:=by
 rw[List.replicate_append_replicate]
theorem Qfm(l:List Int)(m j:Nat)(h:j≤m):(List.replicate m l).flatten.take (j*l.length)=(List.replicate j l).flatten :=by
 obtain⟨d,rfl⟩:=Nat.exists_eq_add_of_le h;rw[Qgu,List.flatten_append,List.take_left'];simp
theorem Qgv(l:List Int)(c:Nat)(hl:0<l.length)(hc:c*l.length≤10000000)(d:Nat):∀(m:Nat) (b:Bool) (rest:List Int),m+d=c→1≤m→rest.length=d*l.length→
  Fa0 (b,(List.replicate m l).flatten ++rest) ((m*l.length:Nat):Int)=some (b,(List.replicate c l).flatten):=by
 induction d using Nat.strongRecOn with
 |_ d ih=>
  intro m b rest hm h1 hr
  have e0:((List.replicate m l).flatten).length =m*l.length:=by simp
  have e1:((List.replicate m l).flatten ++rest).length =c*l.length:=by rw[Kf,e0,hr,←hm,K1b]
  rw[Fa0E];simp only[e1]
  by_cases hd:d=0
  ·subst hd;have:rest=[]:=K22 (by simpa using hr);subst this
   obtain rfl:m=c:=by omega
   rw[gFo,K1l]
  ·have hlt:m*l.length<c*l.length:=(Nat.mul_lt_mul_right hl).2 (by omega);rw[gTo,gTo,gTo,gTo,gTo,J1,K3,List.take_left' e0,Kg,e0]
   have hsub:c*l.length-m*l.length=d*l.length:=by rw[←Nat.sub_mul];congr 1;omega
   have hmin:min (m*l.length) (d*l.length)=(min m d)*l.length:=by
    rcases Nat.le_total m d with h|h
    ·rw[Nat.min_eq_left h,Nat.min_eq_left (Kr _ h)]
    ·rw[Nat.min_eq_right h,Nat.min_eq_right (Kr _ h)]
   have htake:((List.replicate m l).flatten).take (d*l.length)=(List.replicate (min m d) l).flatten :=by
    rcases Nat.le_total m d with h|h
    ·rw[Nat.min_eq_left h,K1d (by rw[e0];exact Kr _ h)]
    ·rw[Nat.min_eq_right h,Qfm l m d h]
   rw[hsub,hmin,htake,←Kj,←List.flatten_append,←Qgu,List.drop_append,K8 (by rw[e0];exact Nat.le_add_right _ _),Kt,e0,show m*l.length+min m d*l.length-m*l.length=min m d*l.length by omega]
   have hadd:m*l.length+min m d*l.length=(m+min m d)*l.length:=by rw[K1b]
   have hle:(m+min m d)*l.length≤c*l.length:=Kr _ (by omega);rw[wr (by omega),show((m*l.length:Nat):Int)+((min m d*l.length:Nat):Int)=(((m+min m d)*l.length:Nat):Int) by rw[←hadd];omega];exact ih (d-min m d) (by omega) (m+min m d) b (rest.drop (min m d*l.length)) (by omega) (by omega) (by rw[K29,hr,←Nat.sub_mul])
theorem Q80(l:DLI)(c:Nat)(hl:0<l.2.length)(hl2:l.2.length≤60000)(h1:1≤c)(hc:c≤60000)(hm:c*l.2.length≤10000000):F2b l (c:Int)=some (false,(List.replicate c l.2).flatten):=by
 have hlim:=J4
 have hmul:(l.2.length:Int)*(c:Int)=((c*l.2.length:Nat):Int):=by rw[Int.natCast_mul,Int.mul_comm]
 have e:=Qgv l.2 c hl (by omega) (c-1) 1 false ((List.replicate (c*l.2.length) (0:Int)).drop l.2.length) (by omega) (by omega) (by
  rw[K29,Kv,Nat.sub_mul,Nat.one_mul])
 have hle:l.2.length≤c*l.2.length:=by
  have:=Kr l.2.length h1;omega
 have e1:l.2.take (List.replicate (c*l.2.length) (0:Int)).length =l.2:=by rw[Kv,K1d hle]
 have e2:min l.2.length (List.replicate (c*l.2.length) (0:Int)).length =l.2.length:=by rw[Kv];omega
 rw[F2bE,gFo,wru (by omega),wru (by omega),Qix (by omega) (by omega),J0];simp only[hmul];rw[gFo,gFo,wr (by omega),gTo,gTo,gTo,gTo,K3,e1,e2]
 have e':Fa0 (false,l.2++(List.replicate (c*l.2.length) (0:Int)).drop l.2.length) (l.2.length:Int)=some (false,(List.replicate c l.2).flatten):=by
  simpa using e
 rw[e',J0]
theorem Q7z(l:DLI)(c:Nat)(hl:0<l.2.length)(hl2:l.2.length≤1000)(h1:1≤c)(hc:c≤10000):F2b l (c:Int)=some (false,(List.replicate c l.2).flatten):=
 Q80 l c hl (by omega) h1 (by omega) (by have hm:c*l.2.length≤10000*1000:=Nat.mul_le_mul hc hl2;omega)
def Q3n(p:DProgram)(preds:List (List DNode)):Bool:=decide ((preds.length:Int)≤8)&&preds.all fun t=>Qb p.1 p.2.1 t==2
theorem Qio(p:DProgram)(preds:DRN)(hx:∀t∈preds.2,WfN t.2):F4c p preds=some (Q3n p (preds.2.map Prod.snd)):=by
 rw[F4cE,Q3n,Kh,List.all_map]
 by_cases c:(preds.2.length:Int)>8
 ·rw[gT c,decide_eq_false (by omega),K1u]
 ·rw[gF c,decide_eq_true (by omega),Ky,Qca preds.2 (fun t=>Qb p.1 p.2.1 t.2==2) (fun i=>F9e p preds (preds.2.length:Int) i) (fun i h=>by
   rw[F9eE,gTo,gTo,gTo,J2 preds.2 _ i h,Qct p _ (hx _ (K4 h)),J0,up1o i,J1]) (by rw[F9eE,gFo]),J0]
  show _=some (preds.2.all fun t=>Qb p.1 p.2.1 t.2==2)
  cases preds.2.all fun t=>Qb p.1 p.2.1 t.2==2<;>rfl
theorem Qcc(p:DProgram)(preds:DRN)(least:Int):F4t p preds least=some (decide ((preds.2.length:Int)≥least)&&Q3n p (preds.2.map Prod.snd)):=by
 rw[F4tE,Q3n,Kh,List.all_map]
 by_cases c0:(preds.2.length:Int)≥least
 ·by_cases c:(preds.2.length:Int)≤8
  ·have h:=Ja preds.2 (fun t=> !(Qb p.1 p.2.1 t.2==2)) (fun i=>Fad preds (p,()) (preds.2.length:Int) i) (fun i h=>by
    rw[FadE,gTo,gTo,gTo,J2 preds.2 _ i h,F8jE,Q38,J0,J0,up1o i,J1]) (by rw[FadE,gFo])
   have h2:F7m preds (p,())=some (preds.2.any fun t=> !(Qb p.1 p.2.1 t.2==2)):=by
    rw[F7mE,F4oE];exact Jc h
   rw[gT c0,gT c,h2,J0,decide_eq_true c0,decide_eq_true c,Ky,Ky];show _=some (preds.2.all fun t=>Qb p.1 p.2.1 t.2==2);rw[List.all_eq_not_any_not]
  ·rw[gT c0,gF c,decide_eq_false c,K1u,K26]
 ·rw[gF c0,decide_eq_false c0,K1u]
def insL(n:Int):List Int→List Int
 |[]=>[n]
 |x::l=>if x<n then x::insL n l else if x=n then x::l else n::x::l
def Qu(l:List Int):Prop:=l.Pairwise (· < ·)
theorem Qck(n:Int)(l:List Int):∀x,x∈insL n l↔x=n∨x∈l:=by
 induction l with
 |nil=>intro x;simp[insL]
 |cons y l ih=>
  intro x;unfold insL;split
  ·rw[Kd,ih,Kd];constructor
   ·rintro(h|h|h)
    ·exact .inr (.inl h)
    ·exact .inl h
    ·exact .inr (.inr h)
   ·rintro(h|h|h)
    ·exact .inr (.inl h)
    ·exact .inl h
    ·exact .inr (.inr h)
  ·split
   ·rename_i h1 h2;constructor
    ·exact .inr
    ·rintro(h|h)
     ·rw[h,←h2];exact Kk
     ·exact h
   ·rw[Kd]
theorem Qbf(n:Int)(l:List Int)(h:Qu l):Qu (insL n l):=by
 induction l with
 |nil=>exact List.pairwise_singleton _ _
 |cons y l ih=>
  obtain⟨h1,h2⟩:=List.pairwise_cons.1 h;unfold insL;split
  ·rename_i c;refine List.pairwise_cons.2 ⟨fun x hx=> ?_,ih h2⟩
   rcases(Qck n l x).1 hx with rfl|hx
   ·exact c
   ·exact h1 x hx
  ·split
   ·exact h
   ·rename_i c1 c2;refine List.pairwise_cons.2 ⟨fun x hx=> ?_,h⟩
    rcases Kd.1 hx with rfl|hx
    ·omega
    ·have:=h1 x hx;omega
theorem Q40:∀(a b:List Int),Qu a→Qu b→(∀x,x∈a↔x∈b)→a=b:=by
 intro a
 induction a with
 |nil=>
  intro b _ _ h
  cases b with
  |nil=>rfl
  |cons y b=>exact absurd ((h y).2 Kk) (by simp)
 |cons x a ih=>
  intro b ha hb h
  cases b with
  |nil=>exact absurd ((h x).1 Kk) (by simp)
  |cons y b=>
   obtain⟨a1,a2⟩:=List.pairwise_cons.1 ha;obtain⟨b1,b2⟩:=List.pairwise_cons.1 hb
   have hxy:x=y:=by
    have h1:=(h x).1 Kk;have h2:=(h y).2 Kk
    rcases Kd.1 h1 with e|h1
    ·exact e
    ·rcases Kd.1 h2 with e|h2
     ·exact e.symm
     ·have:=b1 x h1;have:=a1 y h2;omega
   subst hxy;rw[ih b a2 b2 (fun z=> ?_)];constructor
   ·intro hz
    rcases Kd.1 ((h z).1 (K9 _ hz))with e|hz2
    ·have:=a1 z hz;omega
    ·exact hz2
   ·intro hz
    rcases Kd.1 ((h z).2 (K9 _ hz))with e|hz2
    ·have:=b1 z hz;omega
    ·exact hz2
def Qr(l:List Int):List Int:=l.foldl (fun o n=>insL n o) []
theorem Q9q(l:List Int):∀o,Qu o→Qu (l.foldl (fun o n=>insL n o) o)∧∀x,x∈l.foldl (fun o n=>insL n o) o↔x∈o∨x∈l:=by
 induction l with
 |nil=>intro o h;exact⟨h,by simp⟩
 |cons n l ih=>
  intro o h;obtain⟨q1,q2⟩:=ih (insL n o) (Qbf n o h);refine⟨q1,fun x=> ?_⟩;rw[K17,q2,Qck,Kd];constructor
  ·rintro((h|h)|h)
   ·exact .inr (.inl h)
   ·exact .inl h
   ·exact .inr (.inr h)
  ·rintro(h|h|h)
   ·exact .inl (.inr h)
   ·exact .inl (.inl h)
   ·exact .inr h
theorem Qk(l:List Int):Qu (Qr l):=(Q9q l [] List.Pairwise.nil).1
theorem Qm(l:List Int):∀x,x∈Qr l↔x∈l:=by
 intro x;rw[Qr,(Q9q l [] List.Pairwise.nil).2];simp
theorem Q3a(a:List Int)(h:Qu a)(n:Nat)(hn:∀x∈a,0≤x∧x<(n:Int))(q:Nat→Bool)(hq:∀i<n,q i=decide ((i:Int)∈a)):a=((List.range n).filter q).map Int.ofNat:=by
 refine Q40 _ _ h ?_ (fun x=> ?_)
 ·rw[Qu,List.pairwise_map];refine List.Pairwise.imp (fun{a b} (hab:a<b)=> ?_) (List.Pairwise.filter q List.pairwise_lt_range);show(a:Int)<(b:Int);omega
 ·rw[Kx];constructor
  ·intro hx;have:=hn x hx;refine⟨x.toNat,?_,by simp;omega⟩;rw[K1e,K1x];refine⟨by omega,?_⟩;rw[hq _ (by omega),decide_eq_true_eq,K1t (by omega)];exact hx
  ·rintro⟨i,hi,rfl⟩
   rw[K1e,K1x]at hi;rw[hq _ hi.1,decide_eq_true_eq]at hi;exact hi.2
theorem Q1q{a:List Int}(h:Qu a){n:Nat}(hn:∀x∈a,0≤x∧x<(n:Int)):a.length≤n:=by
 rw[Q3a a h n hn (fun i=>decide ((i:Int)∈a)) (fun _ _=>rfl),Kh];have:=K1q (fun i:Nat=>decide ((i:Int)∈a)) (List.range n);simpa using this
def Q32(n:Int)(l:List Int):Nat:=(l.takeWhile fun x=>decide (x<n)).length
theorem Qjk(n:Int)(l:List Int):Q32 n l≤l.length:=by
 unfold Q32;exact(List.takeWhile_sublist _).length_le
theorem Qkp(n:Int)(l:List Int):insL n l=if Q32 n l<l.length∧l.getD (Q32 n l) 0=n then l else l.take (Q32 n l)++n::l.drop (Q32 n l):=by
 induction l with
 |nil=>rfl
 |cons x l ih=>
  unfold insL
  by_cases h:x<n
  ·have e:Q32 n (x::l)=Q32 n l+1:=by simp[Q32,h]
   rw[if_pos h,ih,e]
   by_cases c:Q32 n l<l.length∧l.getD (Q32 n l) 0=n
   ·rw[if_pos c,if_pos ⟨by simp;omega,by simpa using c.2⟩]
   ·rw[if_neg c,if_neg (fun hh=>c ⟨by have:=hh.1;simp at this;omega,by simpa using hh.2⟩)];rfl
  ·have e:Q32 n (x::l)=0:=by simp[Q32,h]
   rw[if_neg h,e]
   by_cases c:x=n
   ·rw[if_pos c,if_pos ⟨by simp,by simpa using c⟩]
   ·rw[if_neg c,if_neg (fun hh=>c (by simpa using hh.2))];rfl
theorem Qem(n:Int)(l:List Int)(d:Nat):∀i:Nat,i+d=l.length→(i<l.length∧l.getD i 0<n→Q32 n (l.drop i)=Q32 n (l.drop (i+1))+1)∧(¬(i<l.length∧l.getD i 0<n)→Q32 n (l.drop i)=0):=by
 intro i hi;constructor
 ·rintro⟨h1,h2⟩
  have e:l.getD i 0=l[i]:=by simp[K1,h1]
  rw[e]at h2;rw[K2 h1];unfold Q32;rw[List.takeWhile_cons,if_pos (by simpa using h2),Kq]
 ·intro h
  by_cases h1:i<l.length
  ·have e:l.getD i 0=l[i]:=by simp[K1,h1]
   have h2:¬l[i]<n:=fun hh=>h ⟨h1,by rw[e];exact hh⟩
   rw[K2 h1];unfold Q32;rw[List.takeWhile_cons,if_neg (by simpa using h2)];rfl
  ·rw[K8 (by omega)];rfl
theorem Qiq(b:Bool)(l:List Int)(n:Int)(hl:l.length≤1048576)(d:Nat):∀i:Nat,i+d=l.length→Faq (b,l) n (i:Int)=some ((i+Q32 n (l.drop i):Nat):Int):=by
 induction d with
 |zero=>
  intro i hi;rw[FaqE,gF (by simp only;omega),K8 (by omega)];rfl
 |succ d ih=>
  intro i hi;obtain⟨h1,h2⟩:=Qem n l (d+1) i hi;rw[FaqE,gTs,gTo,gTs,Ql,up1o i,J1]
  by_cases c:l.getD i 0<n
  ·rw[gT c,ih (i+1) (by omega),h1 ⟨by omega,c⟩];congr 2;omega
  ·rw[gF c,h2 (fun h=>c h.2)];rfl
theorem Q1b(n:Int)(l:List Int):(insL n l).length ≤l.length+1:=by
 induction l with
 |nil=>simp[insL]
 |cons x l ih=>
  unfold insL;split
  ·simp only[Kq];omega
  ·split<;>simp
theorem Qlw(b:Bool)(l:List Int)(n:Int)(hl:l.length≤1000000):∃f,F10 (b,l) n=some (f,insL n l)∧(f=true→b=true∧l≠[]):=by
 have hlim:=J4;have h:=Qiq b l n (by omega) l.length 0 (by omega);rw[Kg,K1o]at h;have h':Faq (b,l) n 0=_:=h;have hk:=Qjk n l;rw[F10E,h',J0,Qkp];generalize Q32 n l=k at hk
 have hfin:∀(x:Option DLI),x=(bif decide (0≤(k:Int))then
   bif decide ((k:Int)≤((b,l).2.length :Int))then
   bif decide (([]:List Int).length +(((b,l).2.take (toNat (k:Int))).drop 0).length ≤lim)then
   bif decide (([]++(((b,l).2.take (toNat (k:Int))).drop 0)).length +[n].length ≤lim)then
   bif decide (0≤(k:Int))then
   bif decide ((k:Int)≤((b,l).2.length :Int))then
   bif decide ((([]++(((b,l).2.take (toNat (k:Int))).drop 0))++[n]).length +(((b,l).2.take (b,l).2.length).drop (toNat (k:Int))).length ≤lim)then
   some (false,((([]++(((b,l).2.take (toNat (k:Int))).drop 0))++[n])++(((b,l).2.take (b,l).2.length).drop (toNat (k:Int)))))
   else none else none else none else none else none else none else none)→x=some (false,l.take k++n::l.drop k):=by
  rintro x rfl
  rw[gTo,gTs,gT (by simp;omega),gT (by simp;omega),gTo,gTs,gT (by simp;omega)];simp
 by_cases c:k<l.length
 ·rw[gTs,gTo,gTs,Ql]
  by_cases c2:l.getD k 0=n
  ·rw[bT (by rw[beq_iff_eq];exact c2),if_pos ⟨c,c2⟩];exact⟨b,rfl,fun h=>⟨h,fun e=>by rw[e]at c;simp at c⟩⟩
  ·rw[bF (beqF c2),if_neg (fun h=>c2 h.2)];exact⟨false,hfin _ rfl,by simp⟩
 ·rw[gF (by simp only;omega),if_neg (fun h=>c h.1)];exact⟨false,hfin _ rfl,by simp⟩
theorem Qbo(b:Bool)(l:List Int)(n:Int)(hl:l.length≤1000000):∃f,F10 (b,l) n=some (f,insL n l):=by
 obtain⟨f,e,_⟩:=Qlw b l n hl;exact⟨f,e⟩
def clsL(v some_:List Int):List Int:=some_.map fun s=>v.getD s.toNat 0
theorem Q8r(v:DSight)(l:DLI)(hl:l.2.length≤100000)(hin:∀x∈l.2,0≤x∧x<(v.2.length:Int))(d:Nat):∀(i:Nat) (b:Bool) (o:List Int),i+d=l.2.length→o.length≤i→
  ∃b',Fbw v (b,o) l (l.2.length:Int) (i:Int)=some (b',(clsL v.2 (l.2.drop i)).foldl (fun o n=>insL n o) o):=by
 induction d with
 |zero=>
  intro i b o hi ho;rw[FbwE,gFo,K8 (by omega)];exact⟨b,rfl⟩
 |succ d ih=>
  intro i b o hi ho
  have hlt:i<l.2.length:=by omega
  have hx:=hin _ (K4 hlt);obtain⟨f,e⟩:=Qbo b o (v.2.getD (toNat l.2[i]) 0) (by omega);have hlen:=Q1b (v.2.getD (toNat l.2[i]) 0) o;obtain⟨b',g⟩:=ih (i+1) f (insL (v.2.getD (toNat l.2[i]) 0) o) (by omega) (by omega);rw[FbwE,gTo,gTo,gTo,J2 l.2 _ i hlt,gT hx.1,gT hx.2,e,J0,up1o i,J1,g,K2 hlt];exact⟨b',rfl⟩
theorem Qe0(v:DSight)(l:DLI)(hl:l.2.length≤100000)(hin:∀x∈l.2,0≤x∧x<(v.2.length:Int)):∃b,F2x v l=some (b,Qr (clsL v.2 l.2)):=by
 obtain⟨b,g⟩:=Q8r v l hl hin l.2.length 0 true [] (by omega) (by simp);have g':Fbw v (true,[]) l (l.2.length:Int) 0=_:=g;rw[F2xE,g',J0,Kg];exact⟨b,rfl⟩
theorem Qcv(v:List Int):∀x∈v,x<Q2w v:=by
 have key:∀(l:List Int) (m:Int),m≤l.foldl (fun m x=>if x≥m then x+1 else m) m∧∀x∈l,x<l.foldl (fun m x=>if x≥m then x+1 else m) m:=by
  intro l
  induction l with
  |nil=>intro m;exact⟨Int.le_refl _,by simp⟩
  |cons y l ih=>
   intro m;rw[K17];obtain⟨h1,h2⟩:=ih (if y≥m then y+1 else m)
   have hy:m≤(if y≥m then y+1 else m)∧y<(if y≥m then y+1 else m):=by split<;>omega
   refine⟨by omega,fun x hx=> ?_⟩
   rcases Kd.1 hx with rfl|hx
   ·omega
   ·exact h2 x hx
 exact(key v 0).2
theorem Q8d(v:List Int)(hv:∀x∈v,0≤x)(l:List Int)(hl:∀x∈l,0≤x∧x<(v.length:Int)):∀x∈clsL v l,0≤x∧x<Q2w v:=by
 intro x hx;obtain⟨s,hs,rfl⟩:=Kx.1 hx;have:=hl s hs
 have e:v.getD s.toNat 0=v[s.toNat]'(by omega):=by simp[K1,show s.toNat<v.length by omega]
 rw[e];have hm:=K4 (l:=v) (n:=s.toNat) (by omega);exact⟨hv _ hm,Qcv v _ hm⟩
theorem Qgf(t:Bool×List Bool)(hl:t.2.length≤100000)(d:Nat):∀(i:Nat) (o:List Int),i+d=t.2.length→o.length≤i→
  F6p (false,o) t (t.2.length:Int) (i:Int)=some (false,o++((List.range' i d).filter fun j=>t.2.getD j false).map Int.ofNat):=by
 have hlim:=J4
 induction d with
 |zero=>
  intro i o hi ho;rw[F6pE,gFo];simp
 |succ d ih=>
  intro i o hi ho
  have hlt:i<t.2.length:=by omega
  rw[F6pE,gTo,gTo,gTo,Ql,up1o i,J1,J1,K1a,K1n]
  cases t.2.getD i false with
  |true=>rw[cond_true,gT (by simp;omega),K26,ih (i+1) _ (by omega) (by simp;omega)];simp
  |false=>rw[cond_false,ih (i+1) o (by omega) (by omega)];simp
theorem Qjx(t:Bool×List Bool)(hl:t.2.length≤100000):F26 t=some (false,((List.range t.2.length).filter fun j=>t.2.getD j false).map Int.ofNat):=by
 have h:=Qgf t hl t.2.length 0 [] (by omega) (by simp);have h':F6p (false,[]) t (t.2.length:Int) 0=_:=h;rw[F26E,h',J0,K1g];rfl
theorem Q9f(v:DSight)(hv:∀x∈v.2,0≤x)(m:Nat)(hm:Q2w v.2=m)(l:DLI)(hl:l.2.length≤100000)(hin:∀x∈l.2,0≤x∧x<(v.2.length:Int))(d:Nat):∀(i:Nat) (t:List Bool),i+d=l.2.length→t.length=m→
  ∃t',t'.length=m∧(∀j<m,t'.getD j false=(t.getD j false||decide ((j:Int)∈clsL v.2 (l.2.drop i))))∧F9c v (false,t) l (l.2.length:Int) (i:Int)=some (false,t'):=by
 induction d with
 |zero=>
  intro i t hi ht;refine⟨t,ht,fun j _=> ?_,by rw[F9cE,gFo]⟩;rw[K8 (by omega)];simp[clsL]
 |succ d ih=>
  intro i t hi ht
  have hlt:i<l.2.length:=by omega
  have hx:=hin _ (K4 hlt);have hc:=Q8d v.2 hv l.2 hin (v.2.getD (toNat l.2[i]) 0) (Kx.2 ⟨_,K4 hlt,rfl⟩);obtain⟨t',h1,h2,h3⟩:=ih (i+1) (t.set (toNat (v.2.getD (toNat l.2[i]) 0)) true) (by omega) (by rw[Km];exact ht);refine⟨t',h1,fun j hj=> ?_,?_⟩
  ·rw[h2 j hj,K2 hlt];have e:clsL v.2 (l.2[i]::l.2.drop (i+1))=v.2.getD (toNat l.2[i]) 0::clsL v.2 (l.2.drop (i+1)):=rfl;rw[e]
   by_cases cj:(j:Int)=v.2.getD (toNat l.2[i]) 0
   ·have:toNat (v.2.getD (toNat l.2[i]) 0)=j:=by omega
    have h5:decide ((j:Int)∈v.2.getD (toNat l.2[i]) 0::clsL v.2 (l.2.drop (i+1)))=true:=decide_eq_true (by rw[←cj];exact Kk);rw[h5,this,Q1s t j true false (by omega),Bool.true_or,Bool.or_true]
   ·have hne:toNat (v.2.getD (toNat l.2[i]) 0)≠j:=by omega
    have e2:(t.set (toNat (v.2.getD (toNat l.2[i]) 0)) true).getD j false=t.getD j false:=by
     rw[K1,List.getElem?_set_ne hne,K1]
    rw[e2];congr 1;exact decide_eq_decide.mpr ⟨K9 _,fun h=>(Kd.1 h).resolve_left cj⟩
  ·rw[F9cE,gTo,gTo,gTo,J2 l.2 _ i hlt,gT hx.1,gT hx.2,gT hc.1,gTs,up1o i,J1,h3]
theorem Qf3(v:DSight)(hvl:v.2.length≤1048576)(h0:0<v.2.length)(hin:∀x∈v.2,0≤x∧x≤32)(l:DLI)(hl:l.2.length≤100000)(hi:∀x∈l.2,0≤x∧x<(v.2.length:Int)):F3f v l=some (false,Qr (clsL v.2 l.2)):=by
 have hlim:=J4;have hc:=Q3t v.2 hin;obtain⟨m,hm⟩:=Kc hc.1
 have hv:∀x∈v.2,0≤x:=fun x hx=>(hin x hx).1
 obtain⟨t,h1,h2,h3⟩:=Q9f v hv m hm l hl hi l.2.length 0 (List.replicate m false) (by omega) (by simp);have h3':F9c v (false,List.replicate m false) l (l.2.length:Int) 0=_:=h3;rw[F3fE,Q5s v hvl h0 hin,J0,hm,gTo,gTo,gTo,gTo,K3,h3',J0,Qjx (false,t) (by simp only;omega),J0];congr 2;have hcls:=Q8d v.2 hv l.2 hi;symm;rw[show((false,t):Bool×List Bool).2.length =m from h1];refine Q3a _ (Qk _) m (fun x hx=> ?_) _ (fun i hi2=> ?_)
 ·have:=hcls x ((Qm _ x).1 hx);omega
 ·rw[h2 i hi2,Kg]
  have e:(List.replicate m false).getD i false=false:=by simp[K1,K21,hi2]
  rw[e,K27];exact decide_eq_decide.mpr (Qm _ _).symm
noncomputable def doL(p:DProgram)(s:List Int)(cs:List DChange):List Int:=cs.foldl (fun o d=>o.set d.1.toNat (valT p.1 s d.2.2)) s
def noL(w:Nat):List Int→Int
 |[]=>0
 |a::l=>a+2^w*noL w l
structure StOf (p:DProgram) (s:List Int):Prop where
 len:(s.length:Int)=p.2.1
 words:∀v∈s,W5 p.1 v
theorem Q6z{p:DProgram}(hp:Sml p)(no:Int):StOf p (Qe p no):=⟨Q2b hp no,Q2s hp no⟩
theorem Q7h{s:List Int}{p:DProgram}(cs:List DChange):∀o:List Int,(cs.foldl (fun o d=>o.set d.1.toNat (valT p.1 s d.2.2)) o).length =o.length:=by
 induction cs with
 |nil=>intro o;rfl
 |cons c cs ih=>intro o;rw[K17,ih,Km]
theorem Qhe{p:DProgram}(hp:Sml p){s:List Int}(hs:StOf p s)(b:Bool)(t:DLN)(hx:WfN t.2)(hk:Qb p.1 p.2.1 t.2=1):
  W5 p.1 (valT p.1 s t.2)∧F56 p.1 t (i64.wrap ((t.2.length:Int)-1)) (b,s)=some (valT p.1 s t.2)∧Fx p.1 t (b,s)=some (valT p.1 s t.2):=by
 have h1:=hp.w1;have h2:=hp.w2;have hv4:=hp.v2;have h3:=hp.v2;have hl:=hs.len;obtain⟨q1,_,q2,q3⟩:=Q42 p.1 (by omega) (b,s) (by simp only;omega) hs.words t hx (by rw[show(((b,s):DLI).2.length :Int)=p.2.1 from hl,hk];decide);exact⟨q1,q2,q3⟩
theorem Qfe{p:DProgram}(hp:Sml p){s:List Int}(hs:StOf p s)(cs:List DChange)(hw:∀d∈cs,WfCh d)(hc:∀d∈cs,0≤d.1∧d.1<p.2.1∧Qb p.1 p.2.1 d.2.2=1):StOf p (doL p s cs):=by
 refine⟨by rw[doL,Q7h];exact hs.len,?_⟩
 have key:∀(cs:List DChange),(∀d∈cs,WfCh d)→(∀d∈cs,0≤d.1∧d.1<p.2.1∧Qb p.1 p.2.1 d.2.2=1)→∀o:List Int,(∀v∈o,W5 p.1 v)→∀v∈cs.foldl (fun o d=>o.set d.1.toNat (valT p.1 s d.2.2)) o,W5 p.1 v:=by
  intro cs
  induction cs with
  |nil=>intro _ _ o ho;exact ho
  |cons c cs ih=>
   intro hw hc o ho;rw[K17];refine ih (fun d hd=>hw d (K9 _ hd)) (fun d hd=>hc d (K9 _ hd)) _ (fun v hv=> ?_)
   rcases List.mem_or_eq_of_mem_set hv with hv|rfl
   ·exact ho v hv
   ·exact(Qhe hp hs false c.2 (hw c Kk) (hc c Kk).2.2).1
 exact key cs hw hc s hs.words
theorem Qll{p:DProgram}(hp:Sml p){s:List Int}(hs:StOf p s)(b:Bool)(cs:Bool×List DChange)(hl:cs.2.length≤1048576)(hw:∀d∈cs.2,WfCh d)(hc:∀d∈cs.2,0≤d.1∧d.1<p.2.1∧Qb p.1 p.2.1 d.2.2=1)(f:Bool):
  Faw (b,s) p (f,s) cs (cs.2.length:Int) 0=some (f,doL p s cs.2)∧Fbm (b,s) p (f,s) cs (cs.2.length:Int) 0=some (f,doL p s cs.2):=by
 constructor
 ·exact Jy cs.2 (fun(o:List Int) d=>o.set d.1.toNat (valT p.1 s d.2.2)) (fun o=>(f,o)) (fun o i=>Faw (b,s) p (f,o) cs (cs.2.length:Int) i) (fun i o=>o.length=s.length) (fun i h o ho=>by
   have hd:=K4 h;obtain⟨_,q2,_⟩:=Qhe hp hs b (cs.2[i]).2 (hw _ hd) (hc _ hd).2.2;have c1:=hc _ hd;have:=hs.len;refine⟨?_,by rw[Km];exact ho⟩
   rw[FawE,gTo,gTo,gTo,J2 cs.2 _ i h,q2,J0,gT c1.1,gTs,up1o i,J1]) (fun o ho=>by rw[FawE,gFo]) s rfl
 ·exact Jy cs.2 (fun(o:List Int) d=>o.set d.1.toNat (valT p.1 s d.2.2)) (fun o=>(f,o)) (fun o i=>Fbm (b,s) p (f,o) cs (cs.2.length:Int) i) (fun i o=>o.length=s.length) (fun i h o ho=>by
   have hd:=K4 h;obtain⟨_,_,q3⟩:=Qhe hp hs b (cs.2[i]).2 (hw _ hd) (hc _ hd).2.2;have c1:=hc _ hd;have:=hs.len;refine⟨?_,by rw[Km];exact ho⟩
   rw[FbmE,gTo,gTo,gTo,J2 cs.2 _ i h,q3,J0,gT c1.1,gTs,up1o i,J1]) (fun o ho=>by rw[FbmE,gFo]) s rfl
theorem l7Do{p:DProgram}(hp:Sml p)(hg:Qc p=true)(hsm:Qg p)(hw:WfP p){s:List Int}(hs:StOf p s)(b:Bool)(k:Nat)(hk:k<p.2.2.2.2.length):F3x p (b,s) (k:Int)=some (false,doL p s (p.2.2.2.2[k]).2.2):=by
 have hlim:=J4;have hl:=hs.len;have hv:=hp.v2;have hm:=K4 hk;have q:=(Qll hp hs b (p.2.2.2.2[k]).2 (hsm.2.2 _ hm).2.1 (hw.2 _ hm).2 (Q7m hg _ hm).2 false).1;rw[F3xE,gT (by simp;omega),gTo,gTo,J2 p.2.2.2.2 _ k hk,Kt,q,J0]
theorem Qli{p:DProgram}(hp:Sml p)(hg:Qc p=true)(hsm:Qg p)(hw:WfP p){s:List Int}(hs:StOf p s)(c:DCommand)(hm:c∈p.2.2.2.2):F3l p c (false,s)=some (false,doL p s c.2.2):=by
 have hlim:=J4;have hl:=hs.len;have hv:=hp.v2;have q:=(Qll hp hs false c.2 (hsm.2.2 _ hm).2.1 (hw.2 _ hm).2 (Q7m hg _ hm).2 false).2;rw[F3lE,F8rE,cond_false,gT (by simp;omega),Kt,J0,q,J0]
theorem Qab(w:Nat):∀s:List Int,(∀v∈s,0≤v∧v<2^w)→0≤noL w s∧noL w s<2^(w*s.length):=by
 intro s
 induction s with
 |nil=>intro _;simp[noL]
 |cons a s ih=>
  intro h
  obtain⟨h1,h2⟩:=ih fun v hv=>h v (K9 _ hv)
  have ha:=h a Kk;have hp:(0:Int)<2^w:=Int.pow_pos (by decide)
  have e:(2:Int)^(w*(a::s).length)=2^w*2^(w*s.length):=by rw[Kq,Nat.mul_succ,Nat.add_comm,Int.pow_add]
  have h3:2^w*noL w s≤2^w*(2^(w*s.length)-1):=Int.mul_le_mul_of_nonneg_left (by omega) (by omega);have h4:0≤2^w*noL w s:=Int.mul_nonneg (by omega) h1;rw[Int.mul_sub,Int.mul_one]at h3;rw[e,noL];omega
theorem Qj0(w:Nat)(a:Int):∀s:List Int,noL w (s++[a])=noL w s+2^(w*s.length)*a:=by
 intro s
 induction s with
 |nil=>simp[noL]
 |cons b s ih=>
  rw[List.cons_append,noL,ih,noL,Kq,Nat.mul_succ,Nat.add_comm (w*s.length),Int.pow_add,Int.mul_add,Int.mul_assoc,Int.add_assoc]
theorem Qet(a b:Nat)(ha:a<2^62)(hb:b<2^62):bOr .i64 (a:Int) (b:Int)=((a|||b:Nat):Int):=by
 unfold bOr;show i64.wrap (((BitVec.ofInt 64 (a:Int)|||BitVec.ofInt 64 (b:Int)).toNat :Nat):Int)=_;rw[BitVec.toNat_or,BitVec.ofInt_natCast,BitVec.ofInt_natCast,BitVec.toNat_ofNat,BitVec.toNat_ofNat,K2a (by omega),K2a (by omega)];have:=Nat.or_lt_two_pow ha hb;exact wr ⟨by omega,by simp at this;omega⟩
theorem Qcd(x:Int)(n:Nat)(hn:n<64)(h:0≤x*2^n∧x*2^n<9223372036854775808):bShl .i64 x (n:Int)=x*2^n:=by
 unfold bShl
 have e:min ((n:Int)).toNat (i64.bits)=n:=by
  simp only[K3,IntKind.bits];omega
 rw[e,wr (by omega)]
theorem Q79{p:DProgram}(hp:Sml p){w:Nat}(hw:p.1=w){s:List Int}(hs:∀v∈s,W5 p.1 v):∀v∈s,0≤v∧v<2^w:=by
 intro v hv;have h:=hs v hv
 have e:top p.1+1=((2^w:Nat):Int):=by rw[hw];exact Q5h
 have e2:((2:Int)^w)=((2^w:Nat):Int):=by simp
 exact⟨h.1,by rw[e2,←e];have:=h.2;omega⟩
theorem pow5{n:Nat}(h:n≤5):(2:Int)^n≤32:=by
 have:(2:Nat)^n≤2^5:=Nat.pow_le_pow_right (by decide) h
 have e2:((2:Int)^n)=((2^n:Nat):Int):=by simp
 omega
theorem Qd3(n:Nat):(1:Int)≤2^n:=by
 have:(0:Int)<2^n:=Int.pow_pos (by decide);omega
theorem l7No{p:DProgram}(hp:Sml p){s:List Int}(hs:StOf p s)(b:Bool):F47 p (b,s)=some (noL p.1.toNat s):=by
 obtain⟨w,hw⟩:=Kc (show 0≤p.1 by have:=hp.w1;omega);have hpw:=Q79 hp hw hs.words;have hl:=hs.len;have ha:w*s.length≤5:=Q8a (by have:=hp.a1;rw[hw,←hl]at this;exact this);have h1:=hp.w1;have h2:=hp.w2;have hv4:=hp.v2
 have key:∀(i:Nat),i≤s.length→Faa (b,s) p (noL w (s.drop i)) ((i:Int)-1)=some (noL w s):=by
  intro i
  induction i with
  |zero=>
   intro _;rw[FaaE,gFo,Kg]
  |succ i ih=>
   intro hi
   have hlt:i<s.length:=by omega
   have hq:=Qab w (s.drop (i+1)) fun v hv=>hpw v (List.mem_of_mem_drop hv)
   have hq2:=Qab w (s.drop i) fun v hv=>hpw v (List.mem_of_mem_drop hv)
   have hv:=hpw _ (K4 hlt);have hd:=K2 hlt;have hpd:w*(s.drop i).length ≤5:=K14 (Nat.mul_le_mul_left w (by simp)) ha;have hb:=pow5 hpd
   have e0:noL w (s.drop i)=s[i]+2^w*noL w (s.drop (i+1)):=by rw[hd,noL]
   have hm:noL w (s.drop (i+1))*2^w=2^w*noL w (s.drop (i+1)):=Int.mul_comm _ _;have hnn:0≤2^w*noL w (s.drop (i+1)):=Int.mul_nonneg (by have:=Qd3 w;omega) hq.1;rw[FaaE,gTo,hw,wru (by omega),gFo,gTo,gTs,show((i+1:Nat):Int)-1=(i:Int) by omega,J2 s _ i hlt,Qcd _ w (by omega) (by omega),wr (n:=s[i]) (by omega),hm,Int.add_comm,←e0,wr (n:=noL w (s.drop i)) (by omega),wr (n:=(i:Int)-1) (by omega),J1,ih (by omega)]
 have:=key s.length (Kz _);rw[List.drop_length]at this;have this':Faa (b,s) p 0 ((s.length:Int)-1)=some (noL w s):=this;rw[F47E,wr (by omega),←hl,this',J0,hw,K3]
theorem Ql8{p:DProgram}(hp:Sml p){s:List Int}(hs:StOf p s)(b:Bool):F4b p (b,s)=some (noL p.1.toNat s):=by
 obtain⟨w,hw⟩:=Kc (show 0≤p.1 by have:=hp.w1;omega);have hpw:=Q79 hp hw hs.words;have hl:=hs.len;have ha:w*s.length≤5:=Q8a (by have:=hp.a1;rw[hw,←hl]at this;exact this);have h1:=hp.w1;have h2:=hp.w2;have hv4:=hp.v2
 have key:∀(d i:Nat),i+d=s.length→Fbo p (noL w (s.take i)) (b,s) (s.length:Int) (i:Int)=some (noL w s):=by
  intro d
  induction d with
  |zero=>
   intro i hi;rw[FboE,gFo,K1d (by omega)]
  |succ d ih=>
   intro i hi
   have hlt:i<s.length:=by omega
   have hv:=hpw _ (K4 hlt)
   have hq:=Qab w (s.take i) fun v hv=>hpw v (List.mem_of_mem_take hv)
   have hq2:=Qab w (s.take (i+1)) fun v hv=>hpw v (List.mem_of_mem_take hv)
   have hti:(s.take i).length =i:=by simp;omega
   have hti2:(s.take (i+1)).length =i+1:=by simp;omega
   have e0:noL w (s.take (i+1))=noL w (s.take i)+2^(w*i)*s[i]:=by
    rw[K1f hlt,Qj0,hti]
   have hwi:w*(i+1)≤5:=K14 (Nat.mul_le_mul_left w (by omega)) ha;have hwi0:w*i≤5:=K14 (Nat.mul_le_mul_left w (by omega)) ha;rw[hti2]at hq2;rw[hti]at hq;have hb:=pow5 hwi;have hb2:=pow5 (show w≤5 by omega);have hnn:0≤2^(w*i)*s[i]:=Int.mul_nonneg (by have:=Qd3 (w*i);omega) hv.1;have hm:s[i]*2^(w*i)=2^(w*i)*s[i]:=Int.mul_comm _ _
   have e1:(w:Int)*(i:Int)=((w*i:Nat):Int):=by simp
   obtain⟨m,hm2⟩:=Kc hq.1;obtain⟨n,hn2⟩:=Kc hv.1
   have hor:bOr .i64 (noL w (s.take i)) (2^(w*i)*s[i])=noL w (s.take (i+1)):=by
    rw[e0,hm2,hn2]
    have hmlt:m<2^(w*i):=by
     have e2:((2:Int)^(w*i))=((2^(w*i):Nat):Int):=by simp
     have:=hq.2;rw[hm2,e2]at this;omega
    have e3:(2:Int)^(w*i)*(n:Int)=((2^(w*i)*n:Nat):Int):=by simp
    rw[e3,Qet m _ (by omega) (by rw[hn2,e3]at hnn;have:=hq2.2;rw[e0,hm2,hn2,e3]at this;omega),Nat.or_comm,←Nat.two_pow_add_eq_or_of_lt hmlt];omega
   rw[FboE,gTo,gTo,gTs,hw,e1,wr (n:=((w*i:Nat):Int)) (by omega),gFo,J2 s _ i hlt,wr (n:=s[i]) (by omega),Qcd _ (w*i) (by omega) (by omega),hm,hor,up1o i,J1,ih (i+1) (by omega)]
 have:=key s.length 0 (by omega);have this':Fbo p 0 (b,s) (s.length:Int) 0=some (noL w s):=this;rw[F4bE];rw[show(((b,s):DLI).2.length :Int)=(s.length:Int)from rfl,this',J0,hw,K3]
theorem Qiz{p:DProgram}(hp:Sml p){s:List Int}(hs:StOf p s):0≤noL p.1.toNat s∧noL p.1.toNat s<(Q4 p:Int):=by
 obtain⟨w,hw⟩:=Kc (show 0≤p.1 by have:=hp.w1;omega);have h:=Qab w s (Q79 hp hw hs.words)
 have e:w*s.length=(p.1*p.2.1).toNat :=by rw[hw,←hs.len,←Int.natCast_mul,K3]
 rw[hw,K3,Q4,←e];refine⟨h.1,?_⟩
 have e2:((2:Int)^(w*s.length))=((2^(w*s.length):Nat):Int):=by simp
 rw[←e2];exact h.2
theorem Q7b(zs:List Int)(h:zs.Pairwise (· ≤ ·)):Qu (Lib.compact zs)∧∀x,x∈Lib.compact zs↔x∈zs:=by
 have hget:∀i (hi:i<zs.length),zs.toArray[i]! =zs[i]:=fun i hi=>by simp[hi]
 have hle:∀i j (hj:j<zs.length) (hij:i≤j),zs[i]'(by omega)≤zs[j]:=by
  intro i j hj hij
  rcases Nat.lt_or_ge i j with h1|h1
  ·exact List.pairwise_iff_getElem.1 h i j (by omega) hj h1
  ·obtain rfl:i=j:=by omega
   exact Int.le_refl _
 refine⟨?_,fun x=>⟨J64 x,?_⟩⟩
 ·unfold Lib.compact Lib.compactUpTo;rw[Qu,List.pairwise_map];refine List.Pairwise.imp_of_mem (fun{a b} ha hb hab=> ?_) (List.Pairwise.filter _ List.pairwise_lt_range);rw[K1e,K1x]at ha hb;have h1:=hb.2;simp only[Lib.keeps,decide_eq_true_eq]at h1;rw[hget a ha.1,hget b hb.1]
  rcases h1 with h1|h1
  ·omega
  ·rw[hget b hb.1,hget (b-1) (by omega)]at h1;have h2:=hle a (b-1) (by omega) (by omega);have h3:=hle (b-1) b hb.1 (by omega);omega
 ·intro hx;obtain⟨i,hi,rfl⟩:=List.getElem_of_mem hx
  have key:∀i (hi:i<zs.length),zs[i]∈Lib.compact zs:=by
   intro i
   induction i with
   |zero=>
    intro hi;unfold Lib.compact Lib.compactUpTo;exact Kx.2 ⟨0,K1e.2 ⟨K1x.2 hi,by simp[Lib.keeps]⟩,hget 0 hi⟩
   |succ i ih=>
    intro hi
    by_cases c:zs[i+1]=zs[i]
    ·rw[c];exact ih (by omega)
    ·unfold Lib.compact Lib.compactUpTo;refine Kx.2 ⟨i+1,K1e.2 ⟨K1x.2 hi,?_⟩,hget (i+1) hi⟩;simp only[Lib.keeps,decide_eq_true_eq];right;rw[hget (i+1) hi,Nat.add_sub_cancel,hget i (by omega)];exact c
  exact key i hi
theorem Qag(l:List Int):Lib.compact (l.mergeSort fun a b=>decide (a≤b))=Qr l:=by
 have h:=List.pairwise_mergeSort (le:=fun a b:Int=>decide (a≤b)) (by intro a b c;simp;omega) (by intro a b;simp;omega) l;obtain⟨h1,h2⟩:=Q7b (l.mergeSort fun a b=>decide (a≤b)) (h.imp (by simp))
 refine Q40 _ _ h1 (Qk l) fun x=> ?_
 rw[h2,Qm];exact(List.mergeSort_perm l _).mem_iff
theorem Q83{α:Type}(l:List Int)(hl:l.length≤1048576)(f:Bool×List Int→Option α):((F6b (false,l)).bind fun r=>(F5v (r.1,r.2)).bind f)=f (false,Qr l):=by
 have hlim:=J4;rw[F6bE,J1]
 have e:J9x (false,l)=some (false,l.mergeSort fun a b=>decide (a≤b)):=by
  unfold J9x;rw[cond_false,gTs]
 rw[e,J0,F5vE,J1]
 have e2:J1z (false,l.mergeSort fun a b=>decide (a≤b))=some (false,Qr l):=by
  unfold J1z;rw[cond_false,gT (by simp only[List.length_mergeSort];omega),Qag]
 show(J1z (false,l.mergeSort fun a b=>decide (a≤b))).bind f=_;rw[e2,J0]
theorem Q7o(l:List Int):∀o,(l.foldl (fun o n=>insL n o) o).length ≤o.length+l.length:=by
 induction l with
 |nil=>intro o;simp
 |cons a l ih=>
  intro o;rw[K17,Kq];have h1:=ih (insL a o);have h2:=Q1b a o;omega
theorem Q3o(l:List Int):(Qr l).length ≤l.length:=by
 have:=Q7o l [];simpa[Qr]using this
noncomputable def goC(p:DProgram)(c:DCommand)(s:List Int):List Int:=if Q9u p c.1.2 s=true then[noL p.1.toNat (doL p s c.2.2)]else[]
noncomputable def goL(p:DProgram)(no:Int):List Int:=p.2.2.2.2.flatMap fun c=>goC p c (Qe p no)
noncomputable def Qd(p:DProgram)(no:Int):List Int:=if goL p no=[]then[no]else Qr (goL p no)
structure Ok (p:DProgram):Prop where
 sml:Sml p
 good:Qc p=true
 sm:Qg p
 wf:WfP p
theorem Qk8{p:DProgram}(h:Q18 p=true)(hs:Qg p)(hw:WfP p):Ok p:=⟨Qc9 h,(Q7q h).1,hs,hw⟩
theorem Ok.cmd{p:DProgram}(h:Ok p){c:DCommand}(hc:c∈p.2.2.2.2):WfN c.1.2∧Qb p.1 p.2.1 c.1.2≠0:=by
 refine⟨(h.wf.2 c hc).1,?_⟩;rw[(Q7m h.good c hc).1];decide
theorem Ok.many{p:DProgram}(h:Ok p):1≤p.2.2.2.2.length∧p.2.2.2.2.length≤6:=by
 have hg:=h.good;simp only[Qc,K7,decide_eq_true_eq]at hg;exact hg.2.1
theorem Qlp{p:DProgram}(h:Ok p){c:DCommand}(hc:c∈p.2.2.2.2){s:List Int}(hs:StOf p s):∀x∈goC p c s,0≤x∧x<(Q4 p:Int):=by
 intro x hx;unfold goC at hx;split at hx
 ·rw[Kn]at hx;rw[hx];exact Qiz h.sml (Qfe h.sml hs _ (h.wf.2 _ hc).2 (Q7m h.good _ hc).2)
 ·cases hx
theorem Qlq{p:DProgram}(h:Ok p)(no:Int):∀x∈goL p no,0≤x∧x<(Q4 p:Int):=by
 intro x hx;obtain⟨c,hc,hx⟩:=List.mem_flatMap.1 hx;exact Qlp h hc (Q6z h.sml no) x hx
theorem Q3z{p:DProgram}(h:Ok p){no:Int}(hn:0≤no∧no<(Q4 p:Int)):∀x∈Qd p no,0≤x∧x<(Q4 p:Int):=by
 intro x hx;unfold Qd at hx;split at hx
 ·rw[Kn]at hx;omega
 ·exact Qlq h no x ((Qm _ x).1 hx)
theorem Q3m(p:DProgram)(no:Int):Qu (Qd p no):=by
 unfold Qd;split
 ·exact List.pairwise_singleton _ _
 ·exact Qk _
theorem Qv{p:DProgram}(h:Ok p){no:Int}(hn:0≤no∧no<(Q4 p:Int)):(Qd p no).length ≤Q4 p:=Q1q (Q3m p no) (Q3z h hn)
theorem Qdn(p:DProgram)(c:DCommand)(s:List Int):(goC p c s).length ≤1:=by
 unfold goC;split<;>simp
theorem Qdo(p:DProgram)(no:Int)(cs:List DCommand):(cs.flatMap fun c=>goC p c (Qe p no)).length ≤cs.length:=by
 induction cs with
 |nil=>simp
 |cons a l ih=>
  have:=Qdn p a (Qe p no);simp only[K18,Kf,Kq];omega
theorem Qgn{p:DProgram}(h:Ok p)(no:Int)(d:Nat):∀(i:Nat) (o:List Int),i+d=p.2.2.2.2.length→o.length≤i→
  F7t no p (false,Qe p no) (false,o) p.2.2.2 (p.2.2.2.2.length:Int) (i:Int)=some (false,o++(p.2.2.2.2.drop i).flatMap fun c=>goC p c (Qe p no)):=by
 have hlim:=J4;have hmany:=h.many;have hs:=Q6z h.sml no
 induction d with
 |zero=>
  intro i o hi ho;rw[F7tE,gFo,K8 (by omega)];simp
 |succ d ih=>
  intro i o hi ho
  have hlt:i<p.2.2.2.2.length:=by omega
  have hm:=K4 hlt;obtain⟨c1,c2⟩:=h.cmd hm;have e:=(Q4v h.sml (p.2.2.2.2[i]).1 c1 c2 false no).2;rw[F7tE,gTo,gTo,gTo,J2 p.2.2.2.2 _ i hlt,e,J0,K2 hlt,K18,up1o i,J1]
  cases hh:Qs p (p.2.2.2.2[i]).1.2 no with
  |true=>
   have hg:goC p (p.2.2.2.2[i]) (Qe p no)=[noL p.1.toNat (doL p (Qe p no) (p.2.2.2.2[i]).2.2)]:=if_pos hh;rw[cond_true,Qli h.sml h.good h.sm h.wf hs _ hm,J0,Ql8 h.sml (Qfe h.sml hs _ (h.wf.2 _ hm).2 (Q7m h.good _ hm).2),J0,gT (by simp;omega),J1,K26,ih (i+1) _ (by omega) (by simp;omega),hg];simp
  |false=>
   have hg:goC p (p.2.2.2.2[i]) (Qe p no)=[]:=if_neg (by show¬Qs _ _ _=true;rw[hh];simp);rw[cond_false,ih (i+1) o (by omega) (by omega),hg];simp
theorem Qk0{p:DProgram}(h:Ok p)(no:Int)(hn:0≤no∧no<1000):F27 p no=some (false,Qd p no):=by
 have hmany:=h.many;have q:=Qgn h no p.2.2.2.2.length 0 [] (by omega) (by simp);have q':F7t no p (false,Qe p no) (false,[]) p.2.2.2 (p.2.2.2.2.length:Int) 0=_:=q;have hlen:=Qdo p no p.2.2.2.2;rw[F27E,Q70 h.sml no hn,J0,q',J0,Kt,Kg];show(bif (((goL p no).length :Int)==0)then some (false,[no])else(F6b (false,goL p no)).bind fun r2=>(F5v (r2.1,r2.2)).bind fun r3=>some (r3.1,r3.2))=_;unfold Qd
 by_cases c:goL p no=[]
 ·rw[if_pos c,bT (by rw[c];rfl)]
 ·have:0<(goL p no).length :=List.length_pos_iff.2 c;rw[if_neg c,bF (beqF (by omega)),Q83 _ (by show(goL p no).length ≤_;have:(goL p no).length ≤p.2.2.2.2.length:=hlen;omega)]
theorem Qa2{p:DProgram}(h:Ok p)(no:Int)(d:Nat):∀(i:Nat) (b:Bool) (o:List Int),i+d=p.2.2.2.2.length→o.length≤i→
  ∃b',F8a (false,Qe p no) p (b,o) p.2.2.2 (p.2.2.2.2.length:Int) (i:Int)=some (b',o++((List.range' i d).filter fun k=>Qs p (p.2.2.2.2.getD k ((true,[]),(true,[]))).1.2 no).map Int.ofNat):=by
 have hlim:=J4;have hmany:=h.many
 induction d with
 |zero=>
  intro i b o hi ho;rw[F8aE,gFo];exact⟨b,by simp⟩
 |succ d ih=>
  intro i b o hi ho
  have hlt:i<p.2.2.2.2.length:=by omega
  have hm:=K4 hlt;obtain⟨c1,c2⟩:=h.cmd hm;have e:=(Q4v h.sml (p.2.2.2.2[i]).1 c1 c2 false no).1
  have e2:p.2.2.2.2.getD i ((true,[]),(true,[]))=p.2.2.2.2[i]:=by simp[K1,hlt]
  rw[F8aE,gTo,gTo,gTo,Ql,e2,e,J0,K1a,K1n,e2,up1o i,J1,J1]
  cases hh:Qs p (p.2.2.2.2[i]).1.2 no with
  |true=>
   obtain⟨b',g⟩:=ih (i+1) (b&&false) (o++[(i:Int)]) (by omega) (by simp;omega);rw[cond_true,gT (by simp;omega),g];exact⟨b',by simp⟩
  |false=>
   obtain⟨b',g⟩:=ih (i+1) b o (by omega) (by omega);rw[cond_false,g];exact⟨b',by simp⟩
noncomputable def Q6e(p:DProgram)(no:Int):List Int:=((List.range p.2.2.2.2.length).filter fun k=>Qs p (p.2.2.2.2.getD k ((true,[]),(true,[]))).1.2 no).map Int.ofNat
theorem Qg3{p:DProgram}(h:Ok p)(no:Int):∃b,F2w p (false,Qe p no)=some (b,Q6e p no):=by
 obtain⟨b,q⟩:=Qa2 h no p.2.2.2.2.length 0 true [] (by omega) (by simp);have q':F8a (false,Qe p no) p (true,[]) p.2.2.2 (p.2.2.2.2.length:Int) 0=_:=q;rw[F2wE,q',J0,Q6e,K1g];exact⟨b,rfl⟩
theorem Qif(p:DProgram)(no:Int):goL p no=(Q6e p no).map fun k=>noL p.1.toNat (doL p (Qe p no) (p.2.2.2.2.getD k.toNat ((true,[]),(true,[]))).2.2):=by
 have key:∀(l:List DCommand) (n:Nat) (h:p.2.2.2.2.drop n=l),(l.flatMap fun c=>goC p c (Qe p no))=(((List.range' n l.length).filter fun k=>Qs p (p.2.2.2.2.getD k ((true,[]),(true,[]))).1.2 no).map Int.ofNat).map fun k=>noL p.1.toNat (doL p (Qe p no) (p.2.2.2.2.getD k.toNat ((true,[]),(true,[]))).2.2):=by
  intro l
  induction l with
  |nil=>intro n _;simp
  |cons c l ih=>
   intro n hd
   have hlt:n<p.2.2.2.2.length:=by
    rcases Nat.lt_or_ge n p.2.2.2.2.length with h|h
    ·exact h
    ·rw[K8 h]at hd;cases hd
   rw[K2 hlt]at hd;obtain⟨h1,h2⟩:=List.cons.inj hd
   have e:p.2.2.2.2.getD n ((true,[]),(true,[]))=c:=by rw[←h1];simp[K1,hlt]
   rw[K18,ih (n+1) h2,Kq,K1a,K1n,e]
   cases hh:Qs p c.1.2 no with
   |true=>
    have hg:goC p c (Qe p no)=[noL p.1.toNat (doL p (Qe p no) c.2.2)]:=if_pos hh;rw[hg,if_pos rfl,K12,K12];simp only[Int.ofNat_eq_natCast,K3,e];rfl
   |false=>
    have hg:goC p c (Qe p no)=[]:=if_neg (by show¬Qs _ _ _=true;rw[hh];simp);rw[hg,if_neg (by simp)];rfl
 have:=key p.2.2.2.2 0 (by simp);rw[Q6e,K1g];exact this
theorem Qi2{p:DProgram}(no:Int):∀x∈Q6e p no,∃k:Nat,x=(k:Int)∧k<p.2.2.2.2.length:=by
 intro x hx;obtain⟨k,hk,rfl⟩:=Kx.1 hx;exact⟨k,rfl,K1x.1 (K1e.1 hk).1⟩
theorem Qg6{p:DProgram}(h:Ok p)(no:Int)(l:DLI)(hl:l.2.length≤1000)(hin:∀x∈l.2,∃k:Nat,x=(k:Int)∧k<p.2.2.2.2.length)(d:Nat):∀(i:Nat) (b:Bool) (o:List Int),i+d=l.2.length→o.length≤i→
  ∃b',Fck no p (false,Qe p no) (b,o) l (l.2.length:Int) (i:Int)=some (b',((l.2.drop i).map fun k=>noL p.1.toNat (doL p (Qe p no) (p.2.2.2.2.getD k.toNat ((true,[]),(true,[]))).2.2)).foldl (fun o n=>insL n o) o):=by
 have hs:=Q6z h.sml no
 induction d with
 |zero=>
  intro i b o hi ho;rw[FckE,gFo,K8 (by omega)];exact⟨b,rfl⟩
 |succ d ih=>
  intro i b o hi ho
  have hlt:i<l.2.length:=by omega
  obtain⟨k,hk1,hk⟩:=hin _ (K4 hlt);have hm:=K4 hk
  have e2:p.2.2.2.2.getD k ((true,[]),(true,[]))=p.2.2.2.2[k]:=by simp[K1,hk]
  obtain⟨f,e3⟩:=Qbo b o (noL p.1.toNat (doL p (Qe p no) (p.2.2.2.2[k]).2.2)) (by omega);have hlen:=Q1b (noL p.1.toNat (doL p (Qe p no) (p.2.2.2.2[k]).2.2)) o;obtain⟨b',g⟩:=ih (i+1) f _ (by omega) (by omega:(insL (noL p.1.toNat (doL p (Qe p no) (p.2.2.2.2[k]).2.2)) o).length ≤i+1);rw[FckE,gTo,gTo,gTo,J2 l.2 _ i hlt,hk1,l7Do h.sml h.good h.sm h.wf hs false k hk,J0,l7No h.sml (Qfe h.sml hs _ (h.wf.2 _ hm).2 (Q7m h.good _ hm).2),J0,e3,J0,up1o i,J1,g,K2 hlt,K12,K17,hk1,K3,e2];exact⟨b',rfl⟩
theorem Qh0(l:List Int):Qr l=[]↔l=[]:=by
 constructor
 ·intro h
  cases l with
  |nil=>rfl
  |cons a l=>
   have:=(Qm (a::l) a).2 Kk;rw[h]at this;cases this
 ·rintro rfl;rfl
theorem Qg5{p:DProgram}(h:Ok p)(no:Int)(hn:0≤no∧no<1000):∃b,F2j p no=some (b,Qd p no):=by
 obtain⟨b1,e1⟩:=Qg3 h no;have hmany:=h.many
 have hle:(Q6e p no).length ≤6:=by
  rw[Q6e,Kh];refine K14 (K1q _ _) ?_;simpa using hmany.2
 obtain⟨b,q⟩:=Qg6 h no (b1,Q6e p no) (by simp only;omega) (Qi2 no) (Q6e p no).length 0 true [] (by simp) (by simp);have q':Fck no p (false,Qe p no) (true,[]) (b1,Q6e p no) ((Q6e p no).length :Int) 0=_:=q;rw[F2jE,l7Of h.sml no hn,J0,e1,J0];simp only[q',J0,Kg];rw[←Qif];show∃b_1,(bif (((Qr (goL p no)).length :Int)==0)then some (false,[no])else some (b,Qr (goL p no)))=some (b_1,Qd p no);unfold Qd
 by_cases c:goL p no=[]
 ·rw[if_pos c,bT (by rw[c];rfl)];exact⟨false,rfl⟩
 ·have h0:Qr (goL p no)≠[]:=fun hh=>c ((Qh0 _).1 hh)
  have:0<(Qr (goL p no)).length :=List.length_pos_iff.2 h0;rw[if_neg c,bF (beqF (by omega))];exact⟨b,rfl⟩
theorem Qb4{q:Int→Bool}{f:Bool}(n:Nat)(P:Int→Prop)(L:Bool×List Int→Int→Int→Option (DLI×Int))
  (hs:∀(s:List Int) (i j:Nat) (_:i≤j) (h:j<s.length),s.length=n→(∀x∈s,P x)→L (f,s) (i:Int) (j:Int)=bif !q s[j]then L (f,s.set i s[j]) ((i+1:Nat):Int) ((j+1:Nat):Int)else L (f,s) (i:Int) ((j+1:Nat):Int))
  (he:∀(s:List Int) (i:Nat),s.length=n→L (f,s) (i:Int) (s.length:Int)=some ((f,s),(i:Int)))(d:Nat):
  ∀(i j:Nat) (s:List Int),i≤j→j+d=s.length→s.length=n→(∀x∈s,P x)→∃(s':List Int) (i':Nat),L (f,s) (i:Int) (j:Int)=some ((f,s'),(i':Int))∧s'.length=n∧i'≤n∧s'.take i'=s.take i++(s.drop j).filter fun x=> !q x:=by
 induction d with
 |zero=>
  intro i j s hij hj hn hP
  obtain rfl:j=s.length:=by omega
  exact⟨s,i,he s i hn,hn,by omega,by simp⟩
 |succ d ih=>
  intro i j s hij hj hn hP
  have hlt:j<s.length:=by omega
  rw[hs s i j hij hlt hn hP,K2 hlt,K1n]
  cases hq:q s[j]with
  |true=>
   obtain⟨s',i',h1,h2,h3,h4⟩:=ih i (j+1) s (by omega) (by omega) hn hP;exact⟨s',i',by rw[K5,cond_false,h1],h2,h3,by rw[h4,if_neg (by simp)]⟩
  |false=>
   obtain⟨s',i',h1,h2,h3,h4⟩:=ih (i+1) (j+1) (s.set i s[j]) (by omega) (by rw[Km];omega) (by rw[Km];exact hn) (fun x hx=>by
    rcases List.mem_or_eq_of_mem_set hx with hx|rfl
    ·exact hP x hx
    ·exact hP _ (K4 hlt))
   refine⟨s',i',by rw[K2e,cond_true,h1],h2,h3,?_⟩;rw[h4,if_pos (by simp),List.drop_set_of_lt (by omega)]
   have e:(s.set i s[j]).take (i+1)=s.take i++[s[j]]:=by
    rw[K1f (by rw[Km];omega),List.getElem_set_self,List.take_set_of_le (Kz _)]
   rw[e,Kj];rfl
theorem Q6c{l:List Int}{q:Int→Bool}{f:Bool}(P:Int→Prop)(L:Bool×List Int→Int→Int→Option (DLI×Int))(hl:l.length≤1048576)(hP:∀x∈l,P x)
  (hs:∀(s:List Int) (i j:Nat) (_:i≤j) (h:j<s.length),s.length=l.length→(∀x∈s,P x)→L (f,s) (i:Int) (j:Int)=bif !q s[j]then L (f,s.set i s[j]) ((i+1:Nat):Int) ((j+1:Nat):Int)else L (f,s) (i:Int) ((j+1:Nat):Int))
  (he:∀(s:List Int) (i:Nat),s.length=l.length→L (f,s) (i:Int) (s.length:Int)=some ((f,s),(i:Int)))
  {X:Option (Int ⊕ Unit)}(hX:X=some (bif l.any q then .inl (l.findIdx q:Int)else .inr ())):
  ((X.bind fun r=>match r with
   | .inl y=>some y
   | .inr z=>some (-1)).bind fun r=>
   bif (r==(-1))then some (f,l)else(L (f,l) r (i64.wrap (r+1))).bind fun r1=>
    bif decide (0≤r1.2)then bif decide (r1.2≤(r1.1.2.length:Int))then bif decide (0≤r1.2)then
    bif decide (r1.2≤((r1.1.2.take (toNat r1.2)++(List.replicate (r1.1.2.length-(toNat r1.2)) (0:Int)++r1.1.2.drop r1.1.2.length)).length :Int))then
    some (r1.1.1,(((r1.1.2.take (toNat r1.2)++(List.replicate (r1.1.2.length-(toNat r1.2)) (0:Int)++r1.1.2.drop r1.1.2.length)).take (toNat r1.2)).drop 0))
    else none else none else none else none)=some (f,l.filter fun x=> !q x):=by
 rw[hX]
 cases ha:l.any q with
 |false=>
  have e:l.filter (fun x=> !q x)=l:=List.filter_eq_self.2 fun x hx=>by
   have:=List.any_eq_false.1 ha x hx;simpa using this
  rw[e];rfl
 |true=>
  have hk:l.findIdx q<l.length:=List.findIdx_lt_length.2 (Ku.1 ha);generalize hkk:l.findIdx q=k at hk
  have hqk:q l[k]=true:=by
   subst hkk;exact List.findIdx_getElem (w:=hk)
  have hlt:∀j (hj:j<k),q (l[j]'(by omega))=false:=by
   intro j hj;have:=List.not_of_lt_findIdx (p:=q) (xs:=l) (i:=j) (by omega);simpa using this
  obtain⟨s',i',h1,h2,h3,h4⟩:=Qb4 l.length P L hs he (l.length-(k+1)) k (k+1) l (by omega) (by omega) rfl hP
  have e:l.filter (fun x=> !q x)=s'.take i':=by
   rw[h4]
   have e1:l=l.take k++(l[k]::l.drop (k+1)):=by rw[←K2 hk,List.take_append_drop]
   have e2:(l.take k).filter (fun x=> !q x)=l.take k:=List.filter_eq_self.2 fun x hx=>by
    obtain⟨j,hj,rfl⟩:=List.getElem_of_mem hx
    have hj':j<k:=by simp at hj;omega
    rw[List.getElem_take,hlt j hj'];rfl
   conv=>lhs;rw[e1]
   rw[List.filter_append,e2,K1n,if_neg (by simp[hqk])]
  rw[cond_true,J0,J0,bF (beqF (by omega)),up1o k,h1,J0];simp only[K3];rw[gTo,gTo,gTo,gT (by simp;omega),e];congr 2;rw[Kg,List.take_append_of_le_length (by rw[K1s];omega),List.take_take,Nat.min_self]
theorem Qfs{l:List Int}{n:Int}:(l.any fun x=>x==n)=true↔n∈l:=by
 rw[Ku];constructor
 ·rintro⟨x,hx,e⟩
  rw[beq_iff_eq]at e;exact e▸hx
 ·intro h;exact⟨n,h,by simp⟩
theorem Qc2{a b:List Int}(h:∀x,x∈a↔x∈b):Qr a=Qr b:=
 Q40 _ _ (Qk a) (Qk b) fun x=>by rw[Qm,Qm];exact h x
theorem Q1x(l:List Int)(hl:l.length≤1048576):F51 (false,l)=some (false,l):=by
 have hlim:=J4;rw[F51E,cond_false,gT (by simp;omega),Kt]
theorem Qe2(p:DProgram)(t10:DLI)(t11 t12:Int)(r:DLI)(hr:r.2.length≤1000)(d:Nat):∀(i:Nat) (b:Bool) (o:List Int),i+d=r.2.length→o.length+d≤1000000→
  ∃b',F9f p (b,o) t10 t11 t12 r (r.2.length:Int) (i:Int)=some (b',(r.2.drop i).foldl (fun o n=>insL n o) o):=by
 induction d with
 |zero=>
  intro i b o hi ho;rw[F9fE,gFo,K8 (by omega)];exact⟨b,rfl⟩
 |succ d ih=>
  intro i b o hi ho
  have hlt:i<r.2.length:=by omega
  obtain⟨f,e⟩:=Qbo b o (r.2[i]) (by omega);have hlen:=Q1b (r.2[i]) o;obtain⟨b',g⟩:=ih (i+1) f (insL (r.2[i]) o) (by omega) (by omega);rw[F9fE,gTo,gTo,gTo,J2 r.2 _ i hlt,e,J0,up1o i,J1,g,K2 hlt];exact⟨b',rfl⟩
theorem Qe1{p:DProgram}(h:Ok p)(l:DLI)(hl:l.2.length≤10000)(hn:∀x∈l.2,0≤x∧x<(Q4 p:Int))(d:Nat):∀(i:Nat) (b:Bool) (o:List Int),i+d=l.2.length→o.length≤32*i→
  ∃b',Fa8 p (b,o) l (l.2.length:Int) (i:Int)=some (b',((l.2.drop i).flatMap (Qd p)).foldl (fun o n=>insL n o) o):=by
 have hm:=Qa h.sml
 induction d with
 |zero=>
  intro i b o hi ho;rw[Fa8E,gFo,K8 (by omega)];exact⟨b,rfl⟩
 |succ d ih=>
  intro i b o hi ho
  have hlt:i<l.2.length:=by omega
  have hx:=hn _ (K4 hlt);have hlen:=Qv h hx;obtain⟨f,e⟩:=Qg5 h (l.2[i]) (by omega);obtain⟨b2,e2⟩:=Qe2 p l (l.2.length:Int) (i:Int) (f,Qd p (l.2[i])) (by simp only;omega) (Qd p (l.2[i])).length 0 b o (by simp) (by omega);have e2':F9f p (b,o) l (l.2.length:Int) (i:Int) (f,Qd p (l.2[i])) ((Qd p (l.2[i])).length :Int) 0=_:=e2;have hlen2:=Q7o (Qd p (l.2[i])) o;obtain⟨b',g⟩:=ih (i+1) b2 ((Qd p (l.2[i])).foldl (fun o n=>insL n o) o) (by omega) (by omega);rw[Fa8E,gTo,gTo,gTo,J2 l.2 _ i hlt,e,J0];simp only[e2',Kg,J0];rw[up1o i,J1,g,K2 hlt,K18,List.foldl_append];exact⟨b',rfl⟩
theorem Qg4{p:DProgram}(h:Ok p)(l:DLI)(hl:l.2.length≤10000)(hn:∀x∈l.2,0≤x∧x<(Q4 p:Int)):∃b,F1e p l=some (b,Qr (l.2.flatMap (Qd p))):=by
 obtain⟨b,q⟩:=Qe1 h l hl hn l.2.length 0 true [] (by omega) (by simp);have q':Fa8 p (true,[]) l (l.2.length:Int) 0=_:=q;rw[F1eE,q',J0,Kg];exact⟨b,rfl⟩
theorem Q30{p:DProgram}(h:Ok p)(l:List Int)(hn:∀x∈l,0≤x∧x<(Q4 p:Int)):∀x∈l.flatMap (Qd p),0≤x∧x<(Q4 p:Int):=by
 intro x hx;obtain⟨no,hno,hx⟩:=List.mem_flatMap.1 hx;exact Q3z h (hn no hno) x hx
theorem Q50{p:DProgram}(h:Ok p)(l:List Int)(hn:∀x∈l,0≤x∧x<(Q4 p:Int)):(l.flatMap (Qd p)).length ≤32*l.length:=by
 have hm:=Qa h.sml
 induction l with
 |nil=>simp
 |cons a l ih=>
  have h1:=Qv h (hn a Kk)
  have h2:=ih fun x hx=>hn x (K9 _ hx)
  simp only[K18,Kf,Kq];omega
theorem Q6b(l:DLI)(n:Int)(hl:l.2.length≤1048576):F5s l n=some (l.2.any fun x=>n==x):=by
 have h:=Ja l.2 (fun x=>n==x) (fun i=>F9t l n (l.2.length:Int) i) (fun i h=>by
  rw[F9tE,gTo,gTo,gTo,J2 l.2 _ i h,up1o i,J1]) (by rw[F9tE,gFo])
 rw[F5sE,F25E];exact Jc h
structure Sees (p:DProgram) (v:List Int):Prop where
 ok:Ok p
 len:v.length=Q4 p
 inn:∀x∈v,0≤x∧x≤32
theorem Q65{p:DProgram}{v:List Int}(h:Q6 p v=true)(hs:Qg p)(hw:WfP p):Sees p v:=by
 obtain⟨_,h2,h3⟩:=Q2o h;simp only[Q6,K7]at h;exact⟨Qk8 h.1 hs hw,h2,h3⟩
theorem Sees.manyV{p:DProgram}{v:List Int}(h:Sees p v):2≤v.length∧v.length≤32:=by
 have:=Qa h.ok.sml;rw[h.len];exact this
theorem Sees.clsP{p:DProgram}{v:List Int}(h:Sees p v)(l:DLI)(hl:l.2.length≤100000)(hi:∀x∈l.2,0≤x∧x<(Q4 p:Int))(f:Bool):F3f (f,v) l=some (false,Qr (clsL v l.2)):=by
 have hm:=h.manyV
 have hi':∀x∈l.2,0≤x∧x<(v.length:Int):=fun x hx=>by rw[h.len];exact hi x hx
 exact Qf3 (f,v) (by simp only;omega) (by simp only;omega) h.inn l hl hi'
theorem Sees.clsS{p:DProgram}{v:List Int}(h:Sees p v)(l:DLI)(hl:l.2.length≤100000)(hi:∀x∈l.2,0≤x∧x<(Q4 p:Int))(f:Bool):∃b,F2x (f,v) l=some (b,Qr (clsL v l.2)):=by
 have hi':∀x∈l.2,0≤x∧x<(v.length:Int):=fun x hx=>by rw[h.len];exact hi x hx
 exact Qe0 (f,v) l hl hi'
def inL(v:List Int)(c:Int):List Int:=((List.range v.length).filter fun i=>v.getD i 0==c).map Int.ofNat
theorem Qbu{v:List Int}{c x:Int}:x∈inL v c↔(0≤x∧x<(v.length:Int))∧v.getD x.toNat 0=c:=by
 simp only[inL,Kx,K1e,K1x,beq_iff_eq];constructor
 ·rintro⟨i,⟨h1,h2⟩,rfl⟩
  exact⟨⟨Int.natCast_nonneg _,by simp;omega⟩,by simpa using h2⟩
 ·rintro⟨⟨h1,h2⟩,h3⟩
  exact⟨x.toNat,⟨by omega,h3⟩,K1t h1⟩
theorem Q7p(v:List Int)(c:Int):(inL v c).length ≤v.length:=by
 rw[inL,Kh];refine K14 (K1q _ _) ?_;simp
theorem Qil(v:DSight)(hv:v.2.length≤100000)(c:Int)(d:Nat):∀(i:Nat) (b:Bool) (o:List Int),i+d=v.2.length→o.length≤i→
  ∃b',F7b c (b,o) v (v.2.length:Int) (i:Int)=some (b',o++((List.range' i d).filter fun i=>v.2.getD i 0==c).map Int.ofNat):=by
 have hlim:=J4
 induction d with
 |zero=>
  intro i b o hi ho;exact⟨b,by rw[F7bE,gFo];simp⟩
 |succ d ih=>
  intro i b o hi ho
  have hlt:i<v.2.length:=by omega
  cases hc:(v.2.getD i 0==c)with
  |true=>
   obtain⟨b',g1⟩:=ih (i+1) (b&&false) (o++[(i:Int)]) (by omega) (by simp;omega);rw[F7bE,gTo,gTo,gTo,Ql,up1o i,K1a,K1n,hc,cond_true,gT (by simp;omega),J1,g1];exact⟨b',by simp⟩
  |false=>
   obtain⟨b',g1⟩:=ih (i+1) b o (by omega) (by omega);rw[F7bE,gTo,gTo,gTo,Ql,up1o i,K1a,K1n,hc,cond_false,J1,g1];exact⟨b',by simp⟩
theorem Qko(v:DSight)(hv:v.2.length≤100000)(c:Int)(d:Nat):∀(i:Nat) (b:Bool) (o:List Int),i+d=v.2.length→o.length≤i→
  (∃b',F7b c (b,o) v (v.2.length:Int) (i:Int)=some (b',o++((List.range' i d).filter fun i=>v.2.getD i 0==c).map Int.ofNat))∧F8h c (false,o) v (v.2.length:Int) (i:Int)=some (false,o++((List.range' i d).filter fun i=>v.2.getD i 0==c).map Int.ofNat):=by
 have hlim:=J4
 induction d with
 |zero=>
  intro i b o hi ho;exact⟨⟨b,by rw[F7bE,gFo];simp⟩,by rw[F8hE,gFo];simp⟩
 |succ d ih=>
  intro i b o hi ho
  have hlt:i<v.2.length:=by omega
  cases hc:(v.2.getD i 0==c)with
  |true=>
   obtain⟨⟨b',g1⟩,g2⟩:=ih (i+1) (b&&false) (o++[(i:Int)]) (by omega) (by simp;omega);constructor
   ·rw[F7bE,gTo,gTo,gTo,Ql,up1o i,K1a,K1n,hc,cond_true,gT (by simp;omega),J1,g1];exact⟨b',by simp⟩
   ·rw[F8hE,gTo,gTo,gTo,Ql,up1o i,K1a,K1n,hc,cond_true,gT (by simp;omega),J1,K26,g2];simp
  |false=>
   obtain⟨⟨b',g1⟩,g2⟩:=ih (i+1) b o (by omega) (by omega);constructor
   ·rw[F7bE,gTo,gTo,gTo,Ql,up1o i,K1a,K1n,hc,cond_false,J1,g1];exact⟨b',by simp⟩
   ·rw[F8hE,gTo,gTo,gTo,Ql,up1o i,K1a,K1n,hc,cond_false,J1,g2];simp
theorem Qlv(v:DSight)(hv:v.2.length≤100000)(c:Int):∃b,F2i v c=some (b,inL v.2 c):=by
 obtain⟨b,g1⟩:=Qil v hv c v.2.length 0 true [] (by omega) (by simp);have g1':F7b c (true,[]) v (v.2.length:Int) 0=_:=g1;rw[F2iE,g1',J0,inL,K1g];exact⟨b,rfl⟩
theorem Qje(v:DSight)(hv:v.2.length≤100000)(c:Int):F3b v c=some (false,inL v.2 c):=by
 obtain⟨_,g2⟩:=Qko v hv c v.2.length 0 true [] (by omega) (by simp);have g2':F8h c (false,[]) v (v.2.length:Int) 0=_:=g2;rw[F3bE,g2',J0,inL,K1g];rfl
theorem Sees.inClass{p:DProgram}{v:List Int}(h:Sees p v)(c:Int):∀x∈inL v c,0≤x∧x<(Q4 p:Int):=fun x hx=>by
 have:=(Qbu.1 hx).1;rw[h.len]at this;exact this
noncomputable def Q1f(p:DProgram)(v:List Int)(c:Int):List Int:=Qr (clsL v ((inL v c).flatMap (Qd p)))
theorem Q8c{p:DProgram}(h:Ok p)(v:DSight)(l:DLI)(hl:l.2.length≤10000)(hn:∀x∈l.2,0≤x∧x<(Q4 p:Int))(d:Nat):∀(i:Nat) (o:List Int),i+d=l.2.length→o.length≤32*i→
  F93 p v (false,o) l (l.2.length:Int) (i:Int)=some (false,o++(l.2.drop i).flatMap (Qd p)):=by
 have hlim:=J4;have hm:=Qa h.sml
 induction d with
 |zero=>
  intro i o hi ho;rw[F93E,gFo,K8 (by omega)];simp
 |succ d ih=>
  intro i o hi ho
  have hlt:i<l.2.length:=by omega
  have hx:=hn _ (K4 hlt);have hlen:=Qv h hx;rw[F93E,gTo,gTo,gTo,J2 l.2 _ i hlt,Qk0 h _ (by omega),J0,gTs,up1o i,J1,K1u,ih (i+1) _ (by omega) (by simp;omega),K2 hlt,K18];simp
theorem Qdj{p:DProgram}{v:List Int}(h:Sees p v)(f:Bool)(c:Int):F4a p (f,v) c=some (false,Q1f p v c):=by
 have hm:=h.manyV;have hil:=Q7p v c;have q:=Q8c h.ok (f,v) (false,inL v c) (by simp only;omega) (h.inClass c) (inL v c).length 0 [] (by simp) (by simp);have q':F93 p (f,v) (false,[]) (false,inL v c) ((inL v c).length :Int) 0=_:=q;have hlen:=Q50 h.ok (inL v c) (h.inClass c);have e:=h.clsP (false,(inL v c).flatMap (Qd p)) (by simp only;omega) (Q30 h.ok _ (h.inClass c)) f;rw[F4aE,Qje (f,v) (by simp only;omega) c,J0];simp only[q',J0,Kt,Kg,e];rfl
theorem Qcw{v l:List Int}{c:Int}:c∈clsL v l↔∃s∈l,v.getD s.toNat 0=c:=Kx
theorem Qf5(v l:List Int):Qr (clsL v (Qr l))=Qr (clsL v l):=Qc2 fun x=>by
 simp only[Qcw,Qm]
theorem Qip{p:DProgram}{v:List Int}(h:Sees p v)(f:Bool)(c:Int):∃b,F7v p (f,v) c=some (b,Q1f p v c):=by
 have hm:=h.manyV;have hil:=Q7p v c;obtain⟨b1,e1⟩:=Qlv (f,v) (by simp only;omega) c;obtain⟨b2,e2⟩:=Qg4 h.ok (b1,inL v c) (by simp only;omega) (h.inClass c);have hlen:=Q50 h.ok (inL v c) (h.inClass c);have hs:=Q3o ((inL v c).flatMap (Qd p));obtain⟨b3,e3⟩:=h.clsS (b2,Qr ((inL v c).flatMap (Qd p))) (by simp only;omega) (fun x hx=>Q30 h.ok _ (h.inClass c) x ((Qm _ x).1 hx)) f;rw[F7vE,e1,J0];simp only[e2,J0,e3,Qf5];exact⟨b3,rfl⟩
theorem Q2c{p:DProgram}{v:List Int}(h:Sees p v)(c:Int):(Q1f p v c).length ≤40:=by
 refine Q1q (Qk _) (n:=40) fun x hx=> ?_
 obtain⟨s,hs,rfl⟩:=Qcw.1 ((Qm _ x).1 hx);have h1:=Q30 h.ok _ (h.inClass c) s hs;have hm:=h.len
 have e:v.getD s.toNat 0=v[s.toNat]'(by omega):=by simp[K1,show s.toNat<v.length by omega]
 rw[e];have:=h.inn _ (K4 (l:=v) (n:=s.toNat) (by omega));omega
noncomputable def ownL(p:DProgram)(v:List Int)(no:Int):List Int:=Qr (clsL v (Qd p no))
theorem Sees.ownP{p:DProgram}{v:List Int}(h:Sees p v){no:Int}(hn:0≤no∧no<(Q4 p:Int))(f g:Bool):F3f (f,v) (g,Qd p no)=some (false,ownL p v no):=by
 have hm:=h.manyV;have hl:=Qv h.ok hn;have hlen:=h.len;exact h.clsP (g,Qd p no) (by simp only;omega) (Q3z h.ok hn) f
theorem Sees.ownS{p:DProgram}{v:List Int}(h:Sees p v){no:Int}(hn:0≤no∧no<(Q4 p:Int))(f g:Bool):∃b,F2x (f,v) (g,Qd p no)=some (b,ownL p v no):=by
 have hm:=h.manyV;have hl:=Qv h.ok hn;have hlen:=h.len;exact h.clsS (g,Qd p no) (by simp only;omega) (Q3z h.ok hn) f
noncomputable def Qx(p:DProgram)(v:List Int):List Int→List Int→List (List Int)
 |_,[]=>[]
 |now,c::path=>(now.filter fun s=>v.getD s.toNat 0==c)::Qx p v (Qr ((now.filter fun s=>v.getD s.toNat 0==c).flatMap (Qd p))) path
theorem Q14(p:DProgram)(v:List Int)(path:List Int):∀now,(Qx p v now path).length =path.length:=by
 induction path with
 |nil=>intro now;rfl
 |cons c path ih=>intro now;simp[Qx,ih]
def InS(p:DProgram)(l:List Int):Prop:=l.length≤Q4 p∧∀x∈l,0≤x∧x<(Q4 p:Int)
theorem InS.filter{p:DProgram}{l:List Int}(h:InS p l)(q:Int→Bool):InS p (l.filter q):=⟨K14 (K1q _ _) h.1,fun x hx=>h.2 x (K1e.1 hx).1⟩
theorem InS.next{p:DProgram}{l:List Int}(hok:Ok p)(h:InS p l):InS p (Qr (l.flatMap (Qd p))):=by
 have hx:∀x∈Qr (l.flatMap (Qd p)),0≤x∧x<(Q4 p:Int):=fun x hx=>Q30 hok l h.2 x ((Qm _ x).1 hx)
 exact⟨Q1q (Qk _) hx,hx⟩
theorem Q9b{p:DProgram}(hok:Ok p)(v:List Int)(path:List Int):∀now,InS p now→∀l∈Qx p v now path,InS p l:=by
 induction path with
 |nil=>intro now _ l hl;cases hl
 |cons c path ih=>
  intro now hn l hl
  rcases Kd.1 hl with rfl|hl
  ·exact hn.filter _
  ·exact ih _ ((hn.filter _).next hok) l hl
theorem Q4k{p:DProgram}(t:List DNode):InS p (Q7 p t 0 (Q4 p)):=⟨Q3e p t 0 (Q4 p),fun x hx=>(Q2d.1 hx).1⟩
theorem Qbn{p:DProgram}{v:List Int}(h:Sees p v)(f:Bool)(out:DRI)(c:Int)(t18:DLI)(t19 t20:Int)(l:DLI)(hl:InS p l.2)(d:Nat):∀(i:Nat) (o:List Int),i+d=l.2.length→o.length≤i→
  F6i p (f,v) out c (o.isEmpty,o) t18 t19 t20 l (l.2.length:Int) (i:Int)=some ((o++(l.2.drop i).filter fun s=>v.getD s.toNat 0==c).isEmpty,o++(l.2.drop i).filter fun s=>v.getD s.toNat 0==c):=by
 have hlim:=J4;have hms:=Qa h.ok.sml;have hlen:=h.len;have hl1:=hl.1
 induction d with
 |zero=>
  intro i o hi ho;rw[F6iE,gFo,K8 (by omega)];simp
 |succ d ih=>
  intro i o hi ho
  have hlt:i<l.2.length:=by omega
  have hx:=hl.2 _ (K4 hlt);rw[F6iE,gTo,gTo,gTo,J2 l.2 _ i hlt,gT hx.1,gTs,up1o i,K2 hlt,K1n];simp only
  cases hh:(v.getD (toNat l.2[i]) 0==c)with
  |true=>
   have e:=ih (i+1) (o++[l.2[i]]) (by omega) (by simp;omega)
   have e0:(o++[l.2[i]]).isEmpty =false:=by simp
   rw[e0]at e;rw[cond_true,gT (by simp;omega),J1,K26,e];simp
  |false=>
   rw[cond_false,J1,ih (i+1) o (by omega) (by omega)];simp
theorem Qbm{p:DProgram}{v:List Int}(h:Sees p v)(f:Bool)(path:DLI)(hp:path.2.length≤1048576)(d:Nat):∀(i:Nat) (b fn:Bool) (o:List DLI) (now:List Int),i+d=path.2.length→o.length≤i→InS p now→
  ∃b',F9b p (f,v) (b,o) (fn,now) path (path.2.length:Int) (i:Int)=some (b',o++(Qx p v now (path.2.drop i)).map fun l=>(l.isEmpty,l)):=by
 have hlim:=J4;have hms:=Qa h.ok.sml
 induction d with
 |zero=>
  intro i b fn o now hi ho hn;rw[F9bE,gFo,K8 (by omega)];exact⟨b,by simp[Qx]⟩
 |succ d ih=>
  intro i b fn o now hi ho hn
  have hlt:i<path.2.length:=by omega
  have e:=Qbn h f (b,o) (path.2[i]) path (path.2.length:Int) (i:Int) (fn,now) hn now.length 0 [] (by simp) (by simp);have e':F6i p (f,v) (b,o) (path.2[i]) (true,[]) path (path.2.length:Int) (i:Int) (fn,now) (now.length:Int) 0=_:=e;rw[Kt,Kg]at e';have hn2:=hn.filter (fun s=>v.getD s.toNat 0==path.2[i]);obtain⟨b2,e2⟩:=Qg4 h.ok ((now.filter fun s=>v.getD s.toNat 0==path.2[i]).isEmpty,now.filter fun s=>v.getD s.toNat 0==path.2[i]) (by have:=hn2.1;simp only;omega) hn2.2;obtain⟨b',g⟩:=ih (i+1) (b&&false) b2 (o++[((now.filter fun s=>v.getD s.toNat 0==path.2[i]).isEmpty,now.filter fun s=>v.getD s.toNat 0==path.2[i])]) _ (by omega) (by simp;omega) (hn2.next h.ok);refine⟨b',?_⟩;rw[F9bE,gTo,gTo,gTo,J2 path.2 _ i hlt];simp only[e',J0];rw[gT (by simp;omega),e2,J0,up1o i,J1,g,K2 hlt,Qx];simp
theorem Qcp{p:DProgram}{v:List Int}(h:Sees p v)(f:Bool)(path:DLI)(hp:path.2.length≤1048576):∃b,F18 p (f,v) path=some (b,(Qx p v (Q7 p p.2.2.1.2 0 (Q4 p)) path.2).map fun l=>(l.isEmpty,l)):=by
 have hg:=h.ok.good
 have hk:Qb p.1 p.2.1 p.2.2.1.2≠0:=by
  simp only[Qc,K7,beq_iff_eq]at hg;rw[hg.1];decide
 obtain⟨b1,e1⟩:=Qbp h.ok.sml p.2.2.1 h.ok.wf.1 hk;obtain⟨b2,e2⟩:=Qbm h f path hp path.2.length 0 true b1 [] _ (by omega) (by simp) (Q4k p.2.2.1.2);have e2':F9b p (f,v) (true,[]) (b1,Q7 p p.2.2.1.2 0 (Q4 p)) path (path.2.length:Int) 0=_:=e2;rw[F18E,e1,J0];simp only[e2',J0,Kt,Kg];exact⟨b2,rfl⟩
theorem Qlg{p:DProgram}(hp:Sml p)(t:DLN)(hx:WfN t.2)(hk:Qb p.1 p.2.1 t.2≠0):F29 p t=some (false,Q7 p t.2 0 (Q4 p)):=by
 have hm:=Qa hp;have hlim:=J4
 have key:∀(d i:Nat) (out:List Int),i+d=Q4 p→out.length≤i→F7i t p (false,out) (Q4 p:Int) (i:Int)=some (false,out++Q7 p t.2 i d):=by
  intro d
  induction d with
  |zero=>
   intro i out hi ho;rw[F7iE,gFo];simp[Q7]
  |succ d ih=>
   intro i out hi ho;rw[F7iE,gTo,Q70 hp _ (by omega),J0,(Q4v hp t hx hk _ _).2,J0,Q4h,up1o i]
   cases hh:Qs p t.2 (i:Int)with
   |true=>rw[cond_true,gT (by simp;omega),J1,K26,ih (i+1) _ (by omega) (by simp;omega)];simp
   |false=>rw[cond_false,J1,ih (i+1) out (by omega) (by omega)];simp
 have g:=key (Q4 p) 0 [] (by omega) (by simp);have g':F7i t p (false,[]) (Q4 p:Int) 0=_:=g;rw[F29E,Q1e hp,J0,g',J0];rfl
theorem Qfq{p:DProgram}(h:Ok p):F3c p=some (false,(List.range (Q4 p)).map fun s:Nat=>(false,Qd p (s:Int))):=by
 have hm:=Qa h.sml;have hlim:=J4
 have key:∀(d i:Nat) (o:List DLI),i+d=Q4 p→o.length=i→F94 p (false,o) (Q4 p:Int) (i:Int)=some (false,o++(List.range' i d).map fun s:Nat=>(false,Qd p (s:Int))):=by
  intro d
  induction d with
  |zero=>
   intro i o hi ho;rw[F94E,gFo];simp
  |succ d ih=>
   intro i o hi ho;rw[F94E,gTo,Qk0 h _ (by omega),J0,gT (by simp;omega),up1o i,J1,K26,ih (i+1) _ (by omega) (by simp;omega),K1a];simp
 have g:=key (Q4 p) 0 [] (by omega) rfl;have g':F94 p (false,[]) (Q4 p:Int) 0=_:=g;rw[F3cE,Q1e h.sml,J0,g',J0,K1g];rfl
noncomputable def Q1i(p:DProgram):List DLI:=(List.range (Q4 p)).map fun s:Nat=>(false,Qd p (s:Int))
theorem Q36(p:DProgram):(Q1i p).length =Q4 p:=by simp[Q1i]
theorem Q6j{p:DProgram}{no:Int}(hn:0≤no∧no<(Q4 p:Int)):(Q1i p).getD no.toNat (true,[])=(false,Qd p no):=by
 have h:no.toNat<Q4 p:=by omega
 have e:((no.toNat:Nat):Int)=no:=K1t hn.1;rw[Q1i,K1,K1y,List.getElem?_range h];simp[e]
theorem Qhr{p:DProgram}(v:DSight)(out nx:DRI)(c:Int)(t24:DLI)(t25 t26:Int)(t36:DLI)(t37 t38:Int)(m:Nat)(r:DLI)(hr:r.2.length≤1048576)(hi:∀x∈r.2,0≤x∧x<(m:Int))(d:Nat):∀(i:Nat) (t:List Bool),i+d=r.2.length→t.length=m→
  ∃t',t'.length=m∧(∀j<m,t'.getD j false=(t.getD j false||decide ((j:Int)∈r.2.drop i)))∧F9w p v out nx c (false,t) t24 t25 t26 t36 t37 t38 r (r.2.length:Int) (i:Int)=some (false,t'):=by
 induction d with
 |zero=>
  intro i t hid ht;refine⟨t,ht,fun j _=> ?_,by rw[F9wE,gFo]⟩;rw[K8 (by omega)];simp
 |succ d ih=>
  intro i t hid ht
  have hlt:i<r.2.length:=by omega
  have hx:=hi _ (K4 hlt);obtain⟨t',h1,h2,h3⟩:=ih (i+1) (t.set (toNat r.2[i]) true) (by omega) (by rw[Km];exact ht);refine⟨t',h1,fun j hj=> ?_,?_⟩
  ·rw[h2 j hj,K2 hlt]
   by_cases cj:(j:Int)=r.2[i]
   ·have e1:toNat r.2[i]=j:=by omega
    have h5:decide ((j:Int)∈r.2[i]::r.2.drop (i+1))=true:=decide_eq_true (by rw[←cj];exact Kk);rw[h5,e1,Q1s t j true false (by omega),Bool.true_or,Bool.or_true]
   ·have hne:toNat r.2[i]≠j:=by omega
    have e2:(t.set (toNat r.2[i]) true).getD j false=t.getD j false:=by
     rw[K1,List.getElem?_set_ne hne,K1]
    rw[e2];congr 1;exact decide_eq_decide.mpr ⟨K9 _,fun h=>(Kd.1 h).resolve_left cj⟩
  ·rw[F9wE,gTo,gTo,gTo,J2 r.2 _ i hlt,gT hx.1,gTs,up1o i,J1,h3]
theorem Qhq{p:DProgram}(h:Ok p)(v:DSight)(out:DRI)(c:Int)(t24:DLI)(t25 t26:Int)(l:DLI)(hl:InS p l.2)(d:Nat):∀(i:Nat) (t:List Bool),i+d=l.2.length→t.length=Q4 p→
  ∃t',t'.length=Q4 p∧(∀j<Q4 p,t'.getD j false=(t.getD j false||decide ((j:Int)∈(l.2.drop i).flatMap (Qd p))))∧Fap p v out (false,Q1i p) c (false,t) t24 t25 t26 l (l.2.length:Int) (i:Int)=some (false,t'):=by
 have hms:=Qa h.sml;have hl1:=hl.1;have hg:=Q36 p
 induction d with
 |zero=>
  intro i t hid ht;refine⟨t,ht,fun j _=> ?_,by rw[FapE,gFo]⟩;rw[K8 (by omega)];simp
 |succ d ih=>
  intro i t hid ht
  have hlt:i<l.2.length:=by omega
  have hx:=hl.2 _ (K4 hlt);have hnl:=Qv h hx;obtain⟨t1,g1,g2,g3⟩:=Qhr v out (false,Q1i p) c t24 t25 t26 l (l.2.length:Int) (i:Int) (Q4 p) (false,Qd p l.2[i]) (by simp only;omega) (Q3z h hx) (Qd p l.2[i]).length 0 t (by simp) ht;have g3':F9w p v out (false,Q1i p) c (false,t) t24 t25 t26 l (l.2.length:Int) (i:Int) (false,Qd p l.2[i]) ((Qd p l.2[i]).length :Int) 0=_:=g3;obtain⟨t',h1,h2,h3⟩:=ih (i+1) t1 (by omega) g1;refine⟨t',h1,fun j hj=> ?_,?_⟩
  ·rw[h2 j hj,g2 j hj,Kg,K2 hlt,K18,Bool.or_assoc];congr 1;rw[←Bool.decide_or];exact decide_eq_decide.mpr Kl.symm
  ·rw[FapE,gTo,gTo,gTo,J2 l.2 _ i hlt,gT hx.1,gTs];simp only[Q6j hx,g3',J0];rw[up1o i,J1,h3]
theorem Q52{p:DProgram}{v:List Int}(h:Sees p v)(f:Bool)(c no:Int)(hn:0≤no∧no<(Q4 p:Int)):F64 no (f,v) c=some (!(v.getD no.toNat 0==c)):=by
 have:=h.len;rw[F64E,gT hn.1,gTs];rfl
theorem Q5k{p:DProgram}{v:List Int}(h:Sees p v)(f:Bool)(c:Int)(l:DLI)(hl:l.2.length≤1048576)(hn:∀x∈l.2,0≤x∧x<(Q4 p:Int)):F2m l ((f,v),(c,()))=some (l.1,l.2.filter fun s=>v.getD s.toNat 0==c):=by
 have hX:=Ja l.2 (fun s=> !(v.getD s.toNat 0==c)) (fun i=>Fc5 l ((f,v),(c,())) (l.2.length:Int) i) (fun i hi=>by
  rw[Fc5E,gTo,gTo,gTo,J2 l.2 _ i hi,Q52 h f c _ (hn _ (K4 hi)),J0,up1o i,J1]) (by rw[Fc5E,gFo])
 have e:l.2.filter (fun s=>v.getD s.toNat 0==c)=l.2.filter (fun s=> !!(v.getD s.toNat 0==c)):=by
  congr 1;funext x;rw[Bool.not_not]
 rw[F2mE,F4dE,e]
 exact Q6c (f:=l.1) (fun x=>0≤x∧x<(Q4 p:Int)) (fun s i j=>F7x s ((f,v),(c,())) i j) hl hn (fun s i j hij hj hn2 hP=>by
  rw[F7xE,gTs,gTo,gTs,J2 s _ j hj,Q52 h f c _ (hP _ (K4 hj)),J0,gTo,gTs,up1o j,up1o i,J1,J1,K3]) (fun s i hn=>by rw[F7xE,gF (by simp only;omega)]) hX
theorem Qav{p:DProgram}(h:Ok p)(now:List Int)(hn:InS p now)(t:List Bool)(h1:t.length=Q4 p)(h2:∀j<Q4 p,t.getD j false=decide ((j:Int)∈now.flatMap (Qd p))):F26 (false,t)=some (false,Qr (now.flatMap (Qd p))):=by
 have hms:=Qa h.sml;rw[Qjx (false,t) (by simp only;omega)];congr 2;symm;rw[show((false,t):Bool×List Bool).2.length =Q4 p from h1];refine Q3a _ (Qk _) (Q4 p) (fun x hx=>Q30 h now hn.2 x ((Qm _ x).1 hx)) _ (fun i hi=> ?_);rw[h2 i hi];exact decide_eq_decide.mpr (Qm _ _).symm
theorem Qhp{p:DProgram}{v:List Int}(h:Sees p v)(f:Bool)(path:DLI)(hp:path.2.length≤1048576)(d:Nat):∀(i:Nat) (o:List DLI) (now:List Int),i+d=path.2.length→o.length≤i→InS p now→
  F7o p (f,v) (false,o) (false,Q1i p) (false,now) path (path.2.length:Int) (i:Int)=some (false,o++(Qx p v (if i=0 then now else Qr (now.flatMap (Qd p))) (path.2.drop i)).map fun l=>(false,l)):=by
 have hlim:=J4;have hms:=Qa h.ok.sml
 induction d with
 |zero=>
  intro i o now hi ho hn;rw[F7oE,gFo,K8 (by omega)];simp[Qx]
 |succ d ih=>
  intro i o now hi ho hn
  have hlt:i<path.2.length:=by omega
  have hn1:=hn.1;rw[F7oE,gTo,gTo,gTo,J2 path.2 _ i hlt,K2 hlt,Qx,up1o i]
  by_cases c0:i=0
  ·have hn2:=hn.filter (fun s=>v.getD s.toNat 0==path.2[i]);have hn3:=hn2.1;have hd:F2m (false,now) ((f,v),(path.2[i],()))=some (false,now.filter fun s=>v.getD s.toNat 0==path.2[i]):=Q5k h f (path.2[i]) (false,now) (by simp only;omega) hn.2;rw[gFo,if_pos c0,hd,J0,Q1x _ (by simp only;omega),J0,gT (by simp;omega),J1,K26,ih (i+1) _ _ (by omega) (by simp;omega) hn2,if_neg (by omega)];simp
  ·have hnx:=hn.next h.ok;have hn2:=hnx.filter (fun s=>v.getD s.toNat 0==path.2[i]);have hn3:=hn2.1;have hn4:=hnx.1;obtain⟨t,t1,t2,t3⟩:=Qhq h.ok (f,v) (false,o) (path.2[i]) path (path.2.length:Int) (i:Int) (false,now) hn now.length 0 (List.replicate (Q4 p) false) (by simp) (by simp);have t3':Fap p (f,v) (false,o) (false,Q1i p) (path.2[i]) (false,List.replicate (Q4 p) false) path (path.2.length:Int) (i:Int) (false,now) (now.length:Int) 0=_:=t3
   have hmk:=Qav h.ok now hn t t1 (fun j hj=>by
    rw[t2 j hj,Kg]
    have e:(List.replicate (Q4 p) false).getD j false=false:=by simp[K1,K21,hj]
    rw[e,K27])
   rw[gTo,if_neg c0,Q1e h.ok.sml,J0,gTo,gTo,gTo,gTo,K3];simp only[t3',J0,hmk];have hd:F2m (false,Qr (now.flatMap (Qd p))) ((f,v),(path.2[i],()))=some (false,(Qr (now.flatMap (Qd p))).filter fun s=>v.getD s.toNat 0==path.2[i]):=Q5k h f (path.2[i]) (false,Qr (now.flatMap (Qd p))) (by simp only;omega) hnx.2;rw[hd,J0,Q1x _ (by simp only;omega),J0,gT (by simp;omega),J1,K26,ih (i+1) _ _ (by omega) (by simp;omega) hn2,if_neg (by omega)];simp
theorem Q71{p:DProgram}{v:List Int}(h:Sees p v)(f:Bool)(path:DLI)(hp:path.2.length≤1048576):Ff p (f,v) path=some (false,(Qx p v (Q7 p p.2.2.1.2 0 (Q4 p)) path.2).map fun l=>(false,l)):=by
 have hg:=h.ok.good
 have hk:Qb p.1 p.2.1 p.2.2.1.2≠0:=by
  simp only[Qc,K7,beq_iff_eq]at hg;rw[hg.1];decide
 have e:=Qhp h f path hp path.2.length 0 [] _ (by omega) (by simp) (Q4k p.2.2.1.2);have e':F7o p (f,v) (false,[]) (false,Q1i p) (false,Q7 p p.2.2.1.2 0 (Q4 p)) path (path.2.length:Int) 0=_:=e;rw[FfE,Qfq h.ok,J0,Qlg h.ok.sml p.2.2.1 h.ok.wf.1 hk,J0];show((F7o p (f,v) (false,[]) (false,Q1i p) (false,Q7 p p.2.2.1.2 0 (Q4 p)) path (path.2.length:Int) 0).bind fun r2=>some (r2.1,r2.2))=_;rw[e',J0,if_pos rfl,Kt,Kg]
def Q27(A:List (List Int)):Int:=bif A.any (fun l=>(l.length:Int)==0)then(A.findIdx (fun l=>(l.length:Int)==0):Int)else -1
theorem Q8j(A:List (List Int))(g:List Int→Bool)(b:Bool)(hl:A.length≤1048576):F4v (b,A.map fun l=>(g l,l))=some (Q27 A)∧F2z (b,A.map fun l=>(g l,l))=some (Q27 A):=by
 have e1:((A.map fun l=>(g l,l)).any fun x:Bool×List Int=>(x.2.length:Int)==0)=A.any fun l=>(l.length:Int)==0:=by rw[List.any_map];rfl
 have e2:((A.map fun l=>(g l,l)).findIdx fun x:Bool×List Int=>(x.2.length:Int)==0)=A.findIdx fun l=>(l.length:Int)==0:=by rw[List.findIdx_map];rfl
 constructor
 ·have h:=Ja (A.map fun l=>(g l,l)) (fun x=>(x.2.length:Int)==0) (fun i=>Fbc (b,A.map fun l=>(g l,l)) () ((A.map fun l=>(g l,l)).length :Int) i) (fun i hi=>by
   have hi':i<A.length:=by simpa using hi
   rw[FbcE,gTo,gTo,gTs,J2 (A.map fun l=>(g l,l)) _ i hi,F6sE,J0,up1o i,J1]) (by rw[FbcE,gFo])
  rw[F4vE,F41E];simp only[h,J0,e1,e2,Q27]
  cases A.any fun l=>(l.length:Int)==0<;>rfl
 ·have h:=Ja (A.map fun l=>(g l,l)) (fun x=>(x.2.length:Int)==0) (fun i=>Fby (b,A.map fun l=>(g l,l)) ((A.map fun l=>(g l,l)).length :Int) i) (fun i hi=>by
   have hi':i<A.length:=by simpa using hi
   rw[FbyE,gTo,gTo,gTs,J2 (A.map fun l=>(g l,l)) _ i hi,up1o i,J1]) (by rw[FbyE,gFo])
  rw[F2zE];simp only[h,J0,e1,e2,Q27]
  cases A.any fun l=>(l.length:Int)==0<;>rfl
theorem Qcg(A:List (List Int)): -1≤Q27 A∧Q27 A<(A.length:Int):=by
 unfold Q27
 cases h:A.any fun l=>(l.length:Int)==0 with
 |false=>exact⟨by simp,by simp;omega⟩
 |true=>
  have:=List.findIdx_lt_length.2 (Ku.1 h);rw[cond_true];exact⟨by omega,by omega⟩
noncomputable def Q1d(p:DProgram)(v path:List Int):List (List Int):=Qx p v (Q7 p p.2.2.1.2 0 (Q4 p)) path
theorem Q9s(A:List (List Int))(g:List Int→Bool)(k:Nat)(hk:k<A.length):(A.map fun l=>(g l,l)).getD k (true,[])=(g A[k],A[k]):=by
 rw[K1,K1y,Ka hk];rfl
noncomputable def Qfd(p:DProgram)(v path:List Int):List Int:=(Q1d p v path).getD ((Q27 (Q1d p v path)).toNat -1) []
theorem Qi0{p:DProgram}{v:List Int}(h:Sees p v)(f:Bool)(path:DLI)(hp:path.2.length≤1048576):
  F78 p (f,v) path=some (if Q27 (Q1d p v path.2)<1 then((true,[]),false)else((false,Qfd p v path.2),true)):=by
 have e1:=Q71 h f path hp;have hlen:(Q1d p v path.2).length =path.2.length:=Q14 p v path.2 _;have e2:=(Q8j (Q1d p v path.2) (fun _=>false) false (by rw[hlen];exact hp)).1;have hf:=Qcg (Q1d p v path.2);rw[F78E,e1,J0];show((F4v (false,(Q1d p v path.2).map fun l=>(false,l))).bind fun r1=>_)=_;rw[e2,J0,Qfd];generalize Q27 (Q1d p v path.2)=k at hf
 by_cases c:k<1
 ·rw[gT c,if_pos c]
 ·obtain⟨n,rfl⟩:∃n:Nat,k=((n+1:Nat):Int):=⟨(k-1).toNat,by omega⟩
  have hn:n<(Q1d p v path.2).length :=by omega
  have ew:i64.wrap (((n+1:Nat):Int)-1)=(n:Int):=by rw[wr (by omega)];omega
  rw[gF c,if_neg c];simp only[ew];rw[gT (show(0:Int)≤(n:Int) by omega)];show(bif decide ((n:Int)<(((Q1d p v path.2).map fun l=>(false,l)).length :Int))then some ((((Q1d p v path.2).map fun l=>(false,l)).getD (toNat (n:Int)) (true,[])|>.1,((Q1d p v path.2).map fun l=>(false,l)).getD (toNat (n:Int)) (true,[])|>.2),true)else none)=_;rw[gT (by simp;omega),K3,Q9s _ _ n hn,K3,Nat.add_sub_cancel]
  have e:(Q1d p v path.2).getD n []=(Q1d p v path.2)[n]:=by simp[K1,hn]
  rw[e]
theorem Qi1{p:DProgram}{v:List Int}(h:Sees p v)(path:List Int):InS p (Qfd p v path):=by
 unfold Qfd;rw[K1]
 cases hh:(Q1d p v path)[(Q27 (Q1d p v path)).toNat -1]? with
 |none=>exact⟨by simp,by simp⟩
 |some l=>exact Q9b h.ok v path _ (Q4k p.2.2.1.2) l (List.mem_of_getElem? hh)
def negs(s:List Int):Nat:=s.countP fun x=>decide (x<0)
def Qw(k:Nat)(st:List Int×List Int)(w:Int):List Int×List Int:=if st.1.getD w.toNat 0<0 then(st.1.set w.toNat (st.1.getD k 0+1),st.2++[w])else st
def bfsL(G:List (List Int)):Nat→List Int→List Int→List Int
 |0,s,_=>s
 |_+1,s,[]=>s
 |n+1,s,k::q=>bfsL G n ((G.getD k.toNat []).foldl (Qw k.toNat) (s,q)).1 ((G.getD k.toNat []).foldl (Qw k.toNat) (s,q)).2
structure BInv (m:Nat) (s q:List Int):Prop where
 len:s.length=m
 low:∀e∈s,-1≤e
 high:∀e∈s,e+1+(negs s:Int)≤m
 que:∀w∈q,(0≤w∧w<(m:Int))∧0≤s.getD w.toNat 0
theorem Qh(s:List Int)(i j:Nat)(a:Int)(hi:i<s.length):(s.set i a).getD j 0=if i=j then a else s.getD j 0:=by
 rw[K1,List.getElem?_set,K1]
 by_cases h:i=j
 ·subst h;simp[hi]
 ·simp[h]
theorem Q3q{s:List Int}{i:Nat}(h:i<s.length):s.getD i 0∈s:=by
 have e:s.getD i 0=s[i]:=by simp[K1,h]
 rw[e];exact K4 h
theorem Q6r(s:List Int):negs s≤s.length:=List.countP_le_length
theorem Q54{m k:Nat}{s q:List Int}(h:BInv m s q)(hk:k<m)(hk2:0≤s.getD k 0){w:Int}(hw:0≤w∧w<(m:Int)):
  BInv m (Qw k (s,q) w).1 (Qw k (s,q) w).2 ∧(Qw k (s,q) w).1.getD k 0=s.getD k 0∧2*negs (Qw k (s,q) w).1 +(Qw k (s,q) w).2.length ≤2*negs s+q.length:=by
 have hlen:=h.len;unfold Qw
 by_cases c:s.getD w.toNat 0<0
 ·simp only[if_pos c]
  have hwl:w.toNat<s.length:=by omega
  have hws:s[w.toNat]<0:=by
   have e:s.getD w.toNat 0=s[w.toNat]:=by simp[K1,hwl]
   omega
  have hn:negs (s.set w.toNat (s.getD k 0+1))+1=negs s:=by
   unfold negs;rw[List.countP_set hwl,if_pos (decide_eq_true hws),if_neg (by simp only[decide_eq_true_eq];omega)]
   have:0<s.countP fun x=>decide (x<0):=List.countP_pos_iff.2 ⟨_,K4 hwl,decide_eq_true hws⟩
   omega
  have hkw:w.toNat≠k:=by
   rintro rfl
   omega
  have hkm:=Q3q (s:=s) (i:=k) (by omega);refine⟨⟨by rw[Km];exact hlen,fun e he=> ?_,fun e he=> ?_,fun x hx=> ?_⟩,?_,?_⟩
  ·rcases List.mem_or_eq_of_mem_set he with he|rfl
   ·exact h.low e he
   ·omega
  ·rcases List.mem_or_eq_of_mem_set he with he|rfl
   ·have:=h.high e he;omega
   ·have:=h.high _ hkm;omega
  ·rw[Qh s _ _ _ hwl]
   rcases Kl.1 hx with hx|hx
   ·obtain⟨h1,h2⟩:=h.que x hx;refine⟨h1,?_⟩;split<;>omega
   ·rw[Kn]at hx;subst hx;exact⟨hw,by rw[if_pos rfl];omega⟩
  ·rw[Qh s _ _ _ hwl,if_neg hkw]
  ·rw[Kf,K1c];omega
 ·simp only[if_neg c];exact⟨h,trivial,Kz _⟩
theorem Q5i{m k:Nat}(hk:k<m)(ws:List Int):∀{s q:List Int},BInv m s q→0≤s.getD k 0→(∀w∈ws,0≤w∧w<(m:Int))→
  BInv m (ws.foldl (Qw k) (s,q)).1 (ws.foldl (Qw k) (s,q)).2 ∧2*negs (ws.foldl (Qw k) (s,q)).1 +(ws.foldl (Qw k) (s,q)).2.length ≤2*negs s+q.length:=by
 induction ws with
 |nil=>intro s q h _ _;exact⟨h,Kz _⟩
 |cons w ws ih=>
  intro s q h h2 hw;obtain⟨g1,g2,g3⟩:=Q54 h hk h2 (hw w Kk);rw[K17]
  obtain⟨i1,i2⟩:=ih (s:=(Qw k (s,q) w).1) (q:=(Qw k (s,q) w).2) g1 (by rw[g2];exact h2) fun x hx=>hw x (K9 _ hx)
  exact⟨i1,K14 i2 g3⟩
structure Gr (m:Nat) (G:List (List Int)):Prop where
 len:G.length=m
 inn:∀l∈G,∀w∈l,0≤w∧w<(m:Int)
 short:∀l∈G,l.length≤20000000
 small:m≤10000
theorem Q2x{G:List (List Int)}{R:List DLI}(h:R.map Prod.snd=G){k:Nat}(hk:k<G.length):k<R.length∧(R.getD k (true,[])).2 =G.getD k []∧G.getD k []∈G:=by
 subst h
 have hk':k<R.length:=by simpa using hk
 refine⟨hk',?_,?_⟩
 ·simp[K1,hk']
 ·have e:(R.map Prod.snd).getD k []=(R.map Prod.snd)[k]:=by simp[K1,hk']
  rw[e];exact K4 _
theorem Qak{m:Nat}(g:DRI)(b ob:Bool)(hd:Int)(hhd:0≤hd∧hd<(m:Int))(r:DLI)(hr:r.2.length≤20000000)(hw:∀w∈r.2,0≤w∧w<(m:Int))(hm:m≤10000)(d:Nat):∀(i:Nat) (s q:List Int),i+d=r.2.length→BInv m s q→0≤s.getD hd.toNat 0→q.length+d≤200000000→∀ob,∃ob',
  F6d g (b,s) (ob,hd::q) r (r.2.length:Int) (i:Int)=some ((b,((r.2.drop i).foldl (Qw hd.toNat) (s,q)).1),(ob',hd::((r.2.drop i).foldl (Qw hd.toNat) (s,q)).2)):=by
 have hlim:=J4
 induction d with
 |zero=>
  intro i s q hi hI hk hq ob;rw[F6dE,gFo,K8 (by omega)];exact⟨ob,rfl⟩
 |succ d ih=>
  intro i s q hi hI hk hq ob
  have hlt:i<r.2.length:=by omega
  have hx:=hw _ (K4 hlt);obtain⟨g1,g2,g3⟩:=Q54 hI (show hd.toNat<m by omega) hk hx;have hlen:=hI.len;have hh:=hI.high _ (Q3q (s:=s) (i:=hd.toNat) (by omega));rw[F6dE,gTo,gTo,gTo,J2 r.2 _ i hlt,gT hx.1,gTs,up1o i,K2 hlt,K17];simp only[List.getD_cons_zero]
  by_cases c:s.getD (toNat r.2[i]) 0<0
  ·have e:Qw hd.toNat (s,q) r.2[i]=(s.set (toNat r.2[i]) (s.getD hd.toNat 0+1),q++[r.2[i]]):=by unfold Qw;exact if_pos c
   rw[e]at g1 g2 g3;obtain⟨ob',g⟩:=ih (i+1) _ _ (by omega) g1 (by rw[g2];exact hk) (by simp;omega) (ob&&false);rw[gT c,gT (by simp),gT hhd.1,gTo,gT hx.1,gTo,gT (by simp;omega),wr (by omega),J1,e];exact⟨ob',g⟩
  ·have e:Qw hd.toNat (s,q) r.2[i]=(s,q):=by unfold Qw;exact if_neg c
   obtain⟨ob',g⟩:=ih (i+1) s q (by omega) hI hk (by omega) ob;rw[gF c,J1,e];exact⟨ob',g⟩
theorem Qlo{m:Nat}(g:DRI)(b:Bool)(hd:Int)(hhd:0≤hd∧hd<(m:Int))(r:DLI)(hr:r.2.length≤20000000)(hw:∀w∈r.2,0≤w∧w<(m:Int))(hm:m≤10000)(d:Nat):∀(i:Nat) (s q:List Int),i+d=r.2.length→BInv m s q→0≤s.getD hd.toNat 0→q.length+d≤200000000→∀ob,∃ob',
  F7s g (b,s) (ob,q) hd r (r.2.length:Int) (i:Int)=some ((b,((r.2.drop i).foldl (Qw hd.toNat) (s,q)).1),(ob',((r.2.drop i).foldl (Qw hd.toNat) (s,q)).2)):=by
 have hlim:=J4
 induction d with
 |zero=>
  intro i s q hi hI hk hq ob;rw[F7sE,gFo,K8 (by omega)];exact⟨ob,rfl⟩
 |succ d ih=>
  intro i s q hi hI hk hq ob
  have hlt:i<r.2.length:=by omega
  have hx:=hw _ (K4 hlt);obtain⟨g1,g2,g3⟩:=Q54 hI (show hd.toNat<m by omega) hk hx;have hlen:=hI.len;have hh:=hI.high _ (Q3q (s:=s) (i:=hd.toNat) (by omega));rw[F7sE,gTo,gTo,gTo,J2 r.2 _ i hlt,gT hx.1,gTs,up1o i,K2 hlt,K17];simp only
  by_cases c:s.getD (toNat r.2[i]) 0<0
  ·have e:Qw hd.toNat (s,q) r.2[i]=(s.set (toNat r.2[i]) (s.getD hd.toNat 0+1),q++[r.2[i]]):=by unfold Qw;exact if_pos c
   rw[e]at g1 g2 g3;obtain⟨ob',g⟩:=ih (i+1) _ _ (by omega) g1 (by rw[g2];exact hk) (by simp;omega) (ob&&false);rw[gT c,gT hhd.1,gTo,gT hx.1,gTo,gT (by simp;omega),wr (by omega),J1,e];exact⟨ob',g⟩
  ·have e:Qw hd.toNat (s,q) r.2[i]=(s,q):=by unfold Qw;exact if_neg c
   obtain⟨ob',g⟩:=ih (i+1) s q (by omega) hI hk (by omega) ob;rw[gF c,J1,e];exact⟨ob',g⟩
theorem Q8b{m:Nat}{G:List (List Int)}(hG:Gr m G)(gb gb2:Bool){R R2:List DLI}(hR:R.map Prod.snd=G)(hR2:R2.map Prod.snd=G)(n:Nat):∀(s q:List Int) (b b2 ob ob2:Bool),BInv m s q→2*negs s+q.length≤n→n≤20000000→
  Fay (gb,R) (b,s) (ob,q)=some (b,bfsL G n s q)∧Fbx (gb2,R2) (b2,s) (ob2,q)=some (b2,bfsL G n s q)∧BInv m (bfsL G n s q) []:=by
 induction n with
 |zero=>
  intro s q b b2 ob ob2 hI hn _;have:q=[]:=List.length_eq_zero_iff.1 (by omega);subst this;exact⟨by rw[FayE,gF (by simp)];rfl,by rw[FbxE,gF (by simp)];rfl,hI⟩
 |succ n ih=>
  intro s q b b2 ob ob2 hI hn hn2
  cases q with
  |nil=>exact⟨by rw[FayE,gF (by simp)];rfl,by rw[FbxE,gF (by simp)];rfl,hI⟩
  |cons k q=>
   obtain⟨hk1,hk2⟩:=hI.que k Kk;have hI':BInv m s q:=⟨hI.len,hI.low,hI.high,fun w hw=>hI.que w (K9 _ hw)⟩
   have hkG:k.toNat<G.length:=by rw[hG.len];omega
   obtain⟨r1,r2,r3⟩:=Q2x hR hkG;obtain⟨r4,r5,_⟩:=Q2x hR2 hkG;have hin:=hG.inn _ r3;have hsh:=hG.short _ r3;have hsm:=hG.small;obtain⟨v1,v2⟩:=Q5i (show k.toNat<m by omega) (G.getD k.toNat []) hI' hk2 hin;obtain⟨i1,i2,i3⟩:=ih ((G.getD k.toNat []).foldl (Qw k.toNat) (s,q)).1 ((G.getD k.toNat []).foldl (Qw k.toNat) (s,q)).2 b b2 ob ob2 v1 (by simp only[Kq]at hn;omega) (by omega);simp only[Kq]at hn;refine⟨?_,?_,i3⟩
   ·obtain⟨ob',e⟩:=Qak (m:=m) (gb,R) b ob k hk1 (R.getD k.toNat (true,[])) (by rw[r2];exact hsh) (by rw[r2];exact hin) hsm (R.getD k.toNat (true,[])).2.length 0 s q (by omega) hI' hk2 (by rw[r2];omega) ob;rw[r2,Kg]at e;have e':F6d (gb,R) (b,s) (ob,k::q) (R.getD k.toNat (true,[])) ((G.getD k.toNat []).length :Int) 0=_:=e;rw[FayE,gT (by simp),gT (by simp)];simp only[List.getD_cons_zero];rw[gT hk1.1,gTo,r2,e',J0,gT (by simp;omega),J1]
    have et:∀(l:List Int),((k::l).take (k::l).length).drop 1=l:=fun l=>by simp
    simp only[et];obtain⟨j1,_,_⟩:=ih ((G.getD k.toNat []).foldl (Qw k.toNat) (s,q)).1 ((G.getD k.toNat []).foldl (Qw k.toNat) (s,q)).2 b b2 ob' ob2 v1 (by omega) (by omega);exact j1
   ·obtain⟨ob',e⟩:=Qlo (m:=m) (gb2,R2) b2 k hk1 (R2.getD k.toNat (true,[])) (by rw[r5];exact hsh) (by rw[r5];exact hin) hsm (R2.getD k.toNat (true,[])).2.length 0 s q (by omega) hI' hk2 (by rw[r5];omega) ob2;rw[r5,Kg]at e;have e':F7s (gb2,R2) (b2,s) (ob2,q) k (R2.getD k.toNat (true,[])) ((G.getD k.toNat []).length :Int) 0=_:=e
    have et:((k::q).take (k::q).length).drop 1=q:=by simp
    rw[FbxE,gT (by simp),gT (by simp),gT (by simp;omega)];simp only[List.getD_cons_zero,et];rw[gT hk1.1,gTo,r5,e',J0,J1];obtain⟨_,j2,_⟩:=ih ((G.getD k.toNat []).foldl (Qw k.toNat) (s,q)).1 ((G.getD k.toNat []).foldl (Qw k.toNat) (s,q)).2 b b2 ob ob' v1 (by omega) (by omega);exact j2
def far0(m:Nat)(l:List Int):List Int:=l.foldl (fun s w=>s.set w.toNat 0) (List.replicate m (-1))
def farL(G:List (List Int))(l:List Int):List Int:=bfsL G (2*G.length+l.length) (far0 G.length l) l
theorem Q4t(m:Nat)(l:List Int)(hl:∀w∈l,0≤w∧w<(m:Int)):BInv m (far0 m l) l:=by
 have key:∀(l:List Int) (s:List Int) (done:List Int),(∀w∈l,0≤w∧w<(m:Int))→s.length=m→(∀e∈s,e= -1∨e=0)→(∀w∈done,(0≤w∧w<(m:Int))∧0≤s.getD w.toNat 0)→(l.foldl (fun s w=>s.set w.toNat 0) s).length =m∧(∀e∈l.foldl (fun s w=>s.set w.toNat 0) s,e= -1∨e=0)∧∀w,w∈done∨w∈l→(0≤w∧w<(m:Int))∧0≤(l.foldl (fun s w=>s.set w.toNat 0) s).getD w.toNat 0:=by
  intro l
  induction l with
  |nil=>intro s done _ h1 h2 h3;exact⟨h1,h2,fun w hw=>h3 w (hw.resolve_right (by simp))⟩
  |cons a l ih=>
   intro s done hw h1 h2 h3;have ha:=hw a Kk;rw[K17]
   obtain⟨g1,g2,g3⟩:=ih (s.set a.toNat 0) (a::done) (fun w h=>hw w (K9 _ h)) (by rw[Km];exact h1) (fun e he=>by
    rcases List.mem_or_eq_of_mem_set he with he|rfl
    ·exact h2 e he
    ·exact .inr rfl) (fun w hwd=>by
    rw[Qh s _ _ _ (by omega)]
    rcases Kd.1 hwd with rfl|hwd
    ·exact⟨ha,by rw[if_pos rfl];omega⟩
    ·obtain⟨q1,q2⟩:=h3 w hwd
     exact⟨q1,by split<;>omega⟩)
   refine⟨g1,g2,fun w hw2=>g3 w ?_⟩
   rcases hw2 with h|h
   ·exact .inl (K9 _ h)
   ·rcases Kd.1 h with rfl|h
    ·exact .inl Kk
    ·exact .inr h
 obtain⟨g1,g2,g3⟩:=key l (List.replicate m (-1)) [] hl (by simp) (fun e he=> .inl (List.eq_of_mem_replicate he)) (by simp);have hn:=Q6r (far0 m l);refine⟨g1,fun e he=>by rcases g2 e he with h|h<;>omega,fun e he=> ?_,fun w hw=>g3 w (.inr hw)⟩;have e1:(far0 m l).length =m:=g1
 rcases g2 e he with h|h
 ·omega
 ·have hne:negs (far0 m l)≠(far0 m l).length :=fun q=>by
   have:=List.countP_eq_length.1 q e he;simp only[decide_eq_true_eq]at this;omega
  omega
theorem Qaj(g:DRI)(b:Bool)(op:DLI)(m:Nat)(l:DLI)(hl:l.2.length≤1048576)(hw:∀w∈l.2,0≤w∧w<(m:Int))(s:List Int)(hs:s.length=m):Fb6 g (b,s) op l (l.2.length:Int) 0=some (b,l.2.foldl (fun s w=>s.set w.toNat 0) s):=
 Jy l.2 (fun(s:List Int) w=>s.set w.toNat 0) (fun s=>(b,s)) (fun s i=>Fb6 g (b,s) op l (l.2.length:Int) i) (fun _ s=>s.length=m) (fun i h s hs=>by
  have hx:=hw _ (K4 h);refine⟨?_,by rw[Km];exact hs⟩
  rw[Fb6E,gTo,gTo,gTo,J2 l.2 _ i h,gT hx.1,gTs,up1o i,J1]) (fun s _=>by rw[Fb6E,gFo]) s hs
theorem Qln(g:DRI)(fr:DLI)(b:Bool)(m:Nat)(l:DLI)(hl:l.2.length≤1048576)(hw:∀w∈l.2,0≤w∧w<(m:Int))(s:List Int)(hs:s.length=m):Fcc g fr (b,s) l (l.2.length:Int) 0=some (b,l.2.foldl (fun s w=>s.set w.toNat 0) s):=
 Jy l.2 (fun(s:List Int) w=>s.set w.toNat 0) (fun s=>(b,s)) (fun s i=>Fcc g fr (b,s) l (l.2.length:Int) i) (fun _ s=>s.length=m) (fun i h s hs=>by
  have hx:=hw _ (K4 h);refine⟨?_,by rw[Km];exact hs⟩
  rw[FccE,gTo,gTo,gTo,J2 l.2 _ i h,gT hx.1,gTs,up1o i,J1]) (fun s _=>by rw[FccE,gFo]) s hs
theorem Qlm(g:DRI)(fr:DLI)(b:Bool)(m:Nat)(hm:m≤10000)(d:Nat):∀(i:Nat) (s:List Int),i+d=m→s.length=m→Fbz g fr (b,s) (m:Int) (i:Int)=some (b,s.take i++List.replicate d (-1)):=by
 induction d with
 |zero=>
  intro i s hi hs;rw[FbzE,gFo,K1d (by omega)];simp
 |succ d ih=>
  intro i s hi hs;rw[FbzE,gTo,gTo,gTs,K3,up1o i,J1,ih (i+1) (s.set i (-1)) (by omega) (by rw[Km];exact hs)]
  have e:(s.set i (-1)).take (i+1)=s.take i++[-1]:=by
   rw[K1f (by rw[Km];omega),List.getElem_set_self,List.take_set_of_le (Kz _)]
  rw[e,Kj,List.replicate_succ];rfl
theorem Q85{m:Nat}{G:List (List Int)}(hG:Gr m G)(hm:1≤m)(gb:Bool){R:List DLI}(hR:R.map Prod.snd=G)(l:List Int)(hl:l.length≤10000)(hw:∀w∈l,0≤w∧w<(m:Int))(fb:Bool)(hfb:fb=true→l=[]):Fu (gb,R) (fb,l)=some (false,farL G l):=by
 have hlim:=J4
 have hRl:R.length=m:=by rw[←hG.len,←hR,Kh]
 have hsm:=hG.small;have e1:=Q7z (false,[-1]) m (by simp) (by simp) hm hsm
 have e1':F2b (false,[-1]) (m:Int)=some (false,List.replicate m (-1)):=by
  rw[e1];congr 2;clear e1 hR hRl hG hw hm hsm
  induction m with
  |zero=>rfl
  |succ n ih=>rw[List.replicate_succ,List.flatten_cons,ih];rfl
 have e2:F51 (fb,l)=some (fb,l):=by
  rw[F51E]
  cases fb with
  |false=>rw[cond_false,gT (by simp;omega),Kt]
  |true=>rw[hfb rfl];rfl
 have e3:=Qaj (gb,R) false (fb,l) m (fb,l) (by simp only;omega) hw (List.replicate m (-1)) (by simp);have e3':Fb6 (gb,R) (false,List.replicate m (-1)) (fb,l) (fb,l) (l.length:Int) 0=some (false,far0 m l):=e3;have hI:=Q4t m l hw;have hn:=Q6r (far0 m l);obtain⟨e4,_,_⟩:=Q8b hG gb gb hR hR (2*m+l.length) (far0 m l) l false false fb false hI (by rw[hI.len]at hn;omega) (by omega);rw[FuE];simp only[hRl,e1',J0,e2,e3',e4];rw[farL,hG.len]
theorem Qju{m:Nat}{G:List (List Int)}(hG:Gr m G)(gb fb:Bool){R:List DLI}(hR:R.map Prod.snd=G)(l:List Int)(hl:l.length≤10000)(hw:∀w∈l,0≤w∧w<(m:Int)):Fg (gb,R) (fb,l)=some (false,farL G l):=by
 have hlim:=J4
 have hRl:R.length=m:=by rw[←hG.len,←hR,Kh]
 have hsm:=hG.small;have e1:=Qlm (gb,R) (fb,l) false m hsm m 0 (List.replicate m 0) (by omega) (by simp)
 have e1':Fbz (gb,R) (fb,l) (false,List.replicate m 0) (m:Int) 0=some (false,List.replicate m (-1)):=by simpa using e1
 have e3:=Qln (gb,R) (fb,l) false m (fb,l) (by simp only;omega) hw (List.replicate m (-1)) (by simp);have e3':Fcc (gb,R) (fb,l) (false,List.replicate m (-1)) (fb,l) (l.length:Int) 0=some (false,far0 m l):=e3;have hI:=Q4t m l hw;have hn:=Q6r (far0 m l);have eo:∃ob,F58 (fb,l)=some (ob,l):=⟨false,by rw[F58E,gT (by simp;omega),Kt]⟩;obtain⟨ob,eo⟩:=eo;obtain⟨_,e4,_⟩:=Q8b hG gb gb hR hR (2*m+l.length) (far0 m l) l false false false ob hI (by rw[hI.len]at hn;omega) (by omega);rw[FgE];simp only[hRl,Kv,K3];rw[gTo,gTo,gTo,gTo,e1',J0,e3',J0,eo,J0,e4,J0,farL,hG.len]
theorem Qch{m:Nat}{G:List (List Int)}(hG:Gr m G)(l:List Int)(hl:l.length≤10000)(hw:∀w∈l,0≤w∧w<(m:Int)):BInv m (farL G l) []:=by
 have hI:=Q4t m l hw;have hn:=Q6r (far0 m l);have hsm:=hG.small
 have hRl:(G.map fun l=>(false,l)).map Prod.snd=G:=by rw[List.map_map];exact List.map_id'' (fun _=>rfl) G
 rw[farL,hG.len];exact(Q8b hG false false hRl hRl (2*m+l.length) (far0 m l) l false false false false hI (by rw[hI.len]at hn;omega) (by omega)).2.2
noncomputable def Qas(p:DProgram)(v:List Int)(t:List DNode):List Int:=Qr (clsL v (Q7 p t 0 (Q4 p)))
theorem Sees.start{p:DProgram}{v:List Int}(h:Sees p v):Qb p.1 p.2.1 p.2.2.1.2≠0:=by
 have hg:=h.ok.good;simp only[Qc,K7,beq_iff_eq]at hg;rw[hg.1];decide
theorem Qgc{p:DProgram}{v:List Int}(h:Sees p v):1≤(Q2w v).toNat ∧((Q2w v).toNat :Int)=Q2w v∧(Q2w v).toNat ≤33:=by
 have hc:=Q3t v h.inn;have hm:=h.manyV;have h0:=Qcv v _ (K4 (l:=v) (n:=0) (by omega));have h1:=(h.inn _ (K4 (l:=v) (n:=0) (by omega))).1;omega
def Pred(G:List (List Int))(s:List Int):Prop:=∀v:Nat,v<s.length→0<s.getD v 0→∃u:Nat,u<s.length∧(v:Int)∈G.getD u []∧s.getD u 0=s.getD v 0-1
theorem Qeo{G:List (List Int)}{m k:Nat}{s q:List Int}(h:BInv m s q)(hk:k<m)(hk2:0≤s.getD k 0){w:Int}(hw:0≤w∧w<(m:Int))(hwG:w∈G.getD k [])(hP:Pred G s):Pred G (Qw k (s,q) w).1 :=by
 have hlen:=h.len;unfold Qw
 by_cases c:s.getD w.toNat 0<0
 ·simp only[if_pos c]
  have hwl:w.toNat<s.length:=by omega
  have hkw:w.toNat≠k:=by
   rintro rfl
   omega
  intro v hv h0;rw[Km]at hv⊢;rw[Qh s _ _ _ hwl]at h0
  by_cases e:w.toNat=v
  ·refine⟨k,by omega,?_,?_⟩
   ·rw[←e,K1t hw.1];exact hwG
   ·rw[Qh s _ _ _ hwl,Qh s _ _ _ hwl,if_neg hkw,if_pos e];omega
  ·rw[if_neg e]at h0;obtain⟨u,u1,u2,u3⟩:=hP v hv h0;refine⟨u,u1,u2,?_⟩
   have hne:w.toNat≠u:=by
    rintro rfl
    omega
   rw[Qh s _ _ _ hwl,Qh s _ _ _ hwl,if_neg hne,if_neg e];exact u3
 ·simp only[if_neg c];exact hP
theorem Qc6{G:List (List Int)}{m k:Nat}(hk:k<m)(ws:List Int)(hwG:∀w∈ws,w∈G.getD k []):∀{s q:List Int},BInv m s q→0≤s.getD k 0→(∀w∈ws,0≤w∧w<(m:Int))→Pred G s→Pred G (ws.foldl (Qw k) (s,q)).1 :=by
 induction ws with
 |nil=>intro s q _ _ _ h;exact h
 |cons w ws ih=>
  intro s q h h2 hw hP;obtain⟨g1,g2,_⟩:=Q54 h hk h2 (hw w Kk);rw[K17];exact ih (fun x hx=>hwG x (K9 _ hx)) (s:=(Qw k (s,q) w).1) (q:=(Qw k (s,q) w).2) g1 (by rw[g2];exact h2) (fun x hx=>hw x (K9 _ hx)) (Qeo h hk h2 (hw w Kk) (hwG w Kk) hP)
theorem Qhw{m:Nat}{G:List (List Int)}(hG:Gr m G)(n:Nat):∀(s q:List Int),BInv m s q→Pred G s→Pred G (bfsL G n s q):=by
 induction n with
 |zero=>intro s q _ h;exact h
 |succ n ih=>
  intro s q hI hP
  cases q with
  |nil=>exact hP
  |cons k q=>
   obtain⟨hk1,hk2⟩:=hI.que k Kk;have hI':BInv m s q:=⟨hI.len,hI.low,hI.high,fun w hw=>hI.que w (K9 _ hw)⟩
   have hkG:k.toNat<G.length:=by rw[hG.len];omega
   have e:G.getD k.toNat []∈G:=by
    have e:G.getD k.toNat []=G[k.toNat]:=by simp[K1,hkG]
    rw[e];exact K4 _
   have hin:=hG.inn _ e;obtain⟨v1,_⟩:=Q5i (show k.toNat<m by omega) (G.getD k.toNat []) hI' hk2 hin;exact ih _ _ v1 (Qc6 (show k.toNat<m by omega) _ (fun _ h=>h) hI' hk2 hin hP)
theorem Qb7(m:Nat)(l:List Int):∀v,(far0 m l).getD v 0≤0:=by
 have key:∀(l s:List Int),(∀v,s.getD v 0≤0)→∀v,(l.foldl (fun s w=>s.set w.toNat 0) s).getD v 0≤0:=by
  intro l
  induction l with
  |nil=>intro s h;exact h
  |cons a l ih=>
   intro s h;rw[K17]
   refine ih _ fun v=> ?_
   by_cases c:a.toNat<s.length
   ·rw[Qh s _ _ _ c];split
    ·omega
    ·exact h v
   ·rw[List.set_eq_of_length_le (by omega)];exact h v
 refine key l _ fun v=> ?_
 rw[K1,K21];split<;>simp
theorem Q9p{m:Nat}{G:List (List Int)}(hG:Gr m G)(l:List Int)(hw:∀w∈l,0≤w∧w<(m:Int)):Pred G (farL G l):=by
 rw[farL,hG.len]
 refine Qhw hG _ _ _ (Q4t m l hw) fun v _ h=> ?_
 have:=Qb7 m l v;omega
def Q2m(v:Int)(row:List Int)(o:List (List Int)):List (List Int):=row.foldl (fun o w=>o.set w.toNat (o.getD w.toNat []++[v])) o
def Qn(g:List (List Int)):List (List Int):=(List.range g.length).foldl (fun o (v:Nat)=>Q2m (v:Int) (g.getD v []) o) (List.replicate g.length [])
def tot(o:List (List Int)):Nat:=(o.map List.length).sum
theorem Q5o(s:List (List Int))(i j:Nat)(a:List Int)(hi:i<s.length):(s.set i a).getD j []=if i=j then a else s.getD j []:=by
 rw[K1,List.getElem?_set,K1]
 by_cases h:i=j
 ·subst h;simp[hi]
 ·simp[h]

end Go.Proofs.YtedfhboklcfanaaGreat.R
