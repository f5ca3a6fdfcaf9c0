/- The plain law of FnExactTryEver:what the two functions compute is the same. -/
import Derived.Test.YtedfhboklcfanaaGreatEFnExactTryEver
import Derived.Laws.MathBits
set_option linter.all false
namespace Go.Proofs.YtedfhboklcfanaaGreat.R
open Go.Rf
theorem Qek(n a:Nat)(hn:n≤4611686018427387904)(ha:a<2^64)(d:Nat):∀i:Nat,i+d=n→
  F7m (n:Int) (a:Int) ((a%2^(min i 64):Nat):Int) (i:Int)=some ((a%2^(min n 64):Nat):Int):=by
 induction d with
 |zero=>
  intro i hi
  obtain rfl:i=n:=by omega
  rw[F7mE,gF (by omega)]
 |succ d ih=>
  intro i hi
  have e1:IntKind.u64.wrap (i:Int)=(i:Int):=wru (by omega)
  rw[F7mE,gT (by omega),e1,gF (by omega),up1 i (by omega),J1]
  by_cases h64:i<64
  ·have hlt:a%2^i<2^64:=Nat.lt_of_le_of_lt (Nat.mod_le _ _) ha
   have hp:(2:Nat)^i<2^64:=Nat.pow_lt_pow_right (by decide) h64
   rw[Jgj i h64,J8d a (2^i) ha hp,show min i 64=i by omega,J92 (a%2^i) (a&&&2^i) hlt (Nat.and_lt_two_pow _ hp),Jff]
   have:=ih (i+1) (by omega)
   rw[show min (i+1) 64=i+1 by omega]at this
   exact this
  ·have e3:bShl .u64 1 (i:Int)=0:=by
    unfold bShl
    rw[show min ((i:Int)).toNat (IntKind.u64.bits)=64 by simp only[K5,IntKind.bits];omega,J51]
    decide
   have hlt:a%2^(min i 64)<2^64:=Nat.lt_of_le_of_lt (Nat.mod_le _ _) ha
   rw[e3,show(0:Int)=((0:Nat):Int)from rfl,J8d a 0 ha (by decide),J92 _ (a&&&0) hlt (by simp)]
   rw[show a%2^(min i 64)|||a&&&0=a%2^(min (i+1) 64) by simp;rw[show min i 64=min (i+1) 64 by omega]]
   exact ih (i+1) (by omega)
theorem Qcl(n a:Nat)(hn:n≤4611686018427387904)(ha:a<2^64):F12 (n:Int) (a:Int)=some ((a%2^(min n 64):Nat):Int):=by
 have:=Qek n a hn ha n 0 (by omega)
 rw[F12E,J1]
 simpa[Nat.mod_one]using this
def top(wide:Int):Int:=2^wide.toNat-1
theorem Q4s{wide:Int}(h:1≤wide∧wide≤64):1≤top wide∧top wide≤18446744073709551615:=by
 obtain⟨n,rfl⟩:=Ke (show 0≤wide by omega)
 have h1:=J4f (n:=n) (by omega)
 have h2:(2:Nat)^1≤2^n:=Nat.pow_le_pow_right (by decide) (by omega)
 have e:((2:Int)^n)=((2^n:Nat):Int):=by simp
 simp only[top,K5,e]
 omega
theorem Q31(wide:Int)(hw:1≤wide∧wide≤64):F0 wide=some (top wide):=by
 obtain⟨n,rfl⟩:=Ke (show 0≤wide by omega)
 have hp:0<(2:Nat)^n:=Nat.two_pow_pos _
 have e:((2:Int)^n)=((2^n:Nat):Int):=by simp
 rw[F0E,Jgf n (by omega) (by omega),wr (by omega),gF (by omega)]
 simp only[top,K5,e]
 congr 1
 omega
def Q2z(wide a:Int):Bool:=decide (1≤wide)&&decide (wide≤64)&&decide (a≤top wide)
theorem Q1c{wide a:Int}:Q2z wide a=true↔1≤wide∧wide≤64∧a≤top wide:=by
 simp only[Q2z,K7,decide_eq_true_eq]
 omega
theorem Q5h(n:Int):F4k n=some (decide (1≤n∧n≤64)):=by
 rw[F4kE]
 by_cases h:n≥1
 ·rw[gT h];congr 1;apply decide_eq_decide.mpr;omega
 ·rw[gF h];congr 1;symm;apply decide_eq_false;omega
theorem Q1x(n lo hi:Int):F25 n lo hi=some (decide (lo≤n∧n≤hi)):=by
 rw[F25E]
 by_cases h:n≥lo
 ·rw[gT h];congr 1;apply decide_eq_decide.mpr;omega
 ·rw[gF h];congr 1;symm;apply decide_eq_false;omega
theorem Q8b(n:Int):F51 n=some (decide (1≤n∧n≤64)):=by rw[F51E,J1,Q1x]
theorem Q2m(wide a:Int)(h:U64 a):F4b wide a=some (Q2z wide a):=by
 rw[F4bE,Q8b,J0]
 by_cases hw:1≤wide∧wide≤64
 ·rw[gT hw]
  obtain⟨h0,h1⟩:=h
  obtain⟨n,rfl⟩:=Ke (show 0≤wide by omega)
  obtain⟨m,rfl⟩:=Ke h0
  have hm:m<2^64:=by simpa using(show m<18446744073709551616 by omega)
  rw[Qcl n m (by omega) hm,J0,show min n 64=n by omega]
  have e:((2:Int)^n)=((2^n:Nat):Int):=by simp
  have hp:0<(2:Nat)^n:=Nat.two_pow_pos _
  congr 1
  rw[K20,beq_iff_eq,Q1c]
  simp only[top,K5,e]
  constructor
  ·intro h
   have h':m%2^n=m:=by exact_mod_cast h
   have:=Nat.mod_lt m hp
   omega
  ·intro h
   rw[K29 (by omega)]
 ·rw[gF hw]
  congr 1
  symm
  rw[←Bool.not_eq_true,Q1c]
  omega
theorem Q2j(wide a:Int):F4f wide a=some (Q2z wide a):=by
 rw[F4fE,Q5h,J0]
 by_cases hw:1≤wide∧wide≤64
 ·rw[gT hw,Q31 wide hw,J0]
  congr 1
  rw[K20,Q1c,decide_eq_true_eq]
  omega
 ·rw[gF hw]
  congr 1
  symm
  rw[←Bool.not_eq_true,Q1c]
  omega
theorem Q7n(a:Bool×List DNode)(left:Int)(h0:0≤left∧left≤1048576)(hl:a.2.length≤big):Fs a left=some (if(a.2.length:Int)≤left then left-a.2.length else -1):=by
 rw[J61]at hl
 rw[FsE,wr (by omega)]
 by_cases h:(a.2.length:Int)≤left
 ·rw[gF (by omega),if_pos h]
 ·rw[gT (by omega),if_neg h]
theorem Q7p(a:Bool×List DNode)(hl:a.2.length≤1048576):Fe a=some (false,a.2):=by
 have hlim:lim=1099511627776:=rfl
 rw[FeE,gT (by omega),gT (by omega),gT (by omega),gT (by omega),J1]
 have:=J2y a.2 (fun x=>x) (fun o i=>F89 a o i) false (fun i h x hx=>by
  rw[F89E,gT (by omega),gT (by omega),gT (by omega),J2 a.2 _ i h,F8E,J0,gT (by omega),gT (by simp only;omega),up1 i (by omega),J1,K5]) (fun x hx=>by
  rw[F89E,gF (by omega)]) (List.replicate (Int.toNat (a.2.length:Int)) (0,0)) (by simp)
 rw[this]
 simp
theorem Q7v(a:Bool×List DNode)(hl:a.2.length≤1048576)(b:Bool):Fh a (b,a.2)=some true:=by
 rw[FhE,bF (by simp)]
 have:=J3m a.2 (fun _=>true) (.inr ():Bool ⊕ Unit) (.inl false) (fun i=>Fa0 a (b,a.2) i) (fun i h=>by
  rw[Fa0E,gT (by omega),gT (by omega),gT (by omega),gT (by omega),gT (by simp only;omega),J2 a.2 _ i h,F9E,bF (by simp),bF (by simp),J0,bF (by simp),up1 i (by omega),J1,cond_true]) (by
  rw[Fa0E,gF (by omega)])
 rw[this,show(a.2.all fun _=>true)=true by simp]
 rfl
theorem Q24(f g:Bool)(l:List DNode)(hl:l.length≤1048576):Fh (f,l) (g,l)=some true:=Q7v (f,l) hl g
def Q1r(c:DChange):Prop:=c.2.2.length≤1048576
def Q1l(c:DCommand):Prop:=c.1.2.length≤1048576∧c.2.2.length≤1048576∧∀d∈c.2.2,Q1r d
def Q7(p:DProgram):Prop:=p.2.2.1.2.length≤1048576∧p.2.2.2.2.length≤1048576∧∀c∈p.2.2.2.2,Q1l c
theorem Qfp(c:DChange)(left:Int)(h0:0≤left∧left≤1048576)(hl:c.2.2.length≤big):∃r,F1h c left=some r∧(r<0∨(0≤r∧r≤left∧Q1r c)):=by
 rw[F1hE,Q7n c.2 left h0 hl,J0]
 by_cases h:(c.2.2.length:Int)≤left
 ·rw[if_pos h,gF (by omega)]
  exact⟨_,rfl,.inr ⟨by omega,by omega,by unfold Q1r;omega⟩⟩
 ·rw[if_neg h,gT (by omega)]
  exact⟨_,rfl,.inl (by omega)⟩
theorem Qa2{α:Type}(l:List α)(Q:α→Prop)(F:Int→Int→Option (Int ⊕ Int))(hl:l.length≤1048576)
  (hs:∀(i:Nat) (h:i<l.length) (left:Int),0≤left∧left≤1048576→(F left (i:Int)=some (.inl (-1)))∨∃r,0≤r∧r≤left∧Q l[i]∧F left (i:Int)=F r ((i+1:Nat):Int))
  (he:∀left,F left (l.length:Int)=some (.inr left))(left:Int)(h0:0≤left∧left≤1048576):F left 0=some (.inl (-1))∨∃r,F left 0=some (.inr r)∧0≤r∧r≤left∧∀x∈l,Q x:=by
 have key:∀(d i:Nat) (left:Int),i+d=l.length→0≤left∧left≤1048576→F left (i:Int)=some (.inl (-1))∨∃r,F left (i:Int)=some (.inr r)∧0≤r∧r≤left∧∀x∈l.drop i,Q x:=by
  intro d
  induction d with
  |zero=>
   intro i left hi h0
   obtain rfl:i=l.length:=by omega
   exact .inr ⟨left,he left,h0.1,Int.le_refl _,by simp⟩
  |succ d ih=>
   intro i left hi h0
   have hlt:i<l.length:=by omega
   rcases hs i hlt left h0 with h|⟨r,h1,h2,h3,h4⟩
   ·exact .inl h
   ·rw[h4]
    rcases ih (i+1) r (by omega) ⟨h1,by omega⟩with h|⟨r',h5,h6,h7,h8⟩
    ·exact .inl h
    ·refine .inr ⟨r',h5,h6,by omega,fun x hx=> ?_⟩
     rw[K2 hlt]at hx
     rcases Kd.1 hx with rfl|hx
     ·exact h3
     ·exact h8 x hx
 have:=key l.length 0 left (by omega) h0
 simpa using this
theorem Qdr(a:Bool×List DChange)(left:Int)(h0:0≤left∧left≤1048576)(hl:a.2.length≤big)(hb:∀c∈a.2,c.2.2.length≤big):∃r,F3p a left=some r∧(r<0∨(0≤r∧r≤left∧a.2.length≤1048576∧∀c∈a.2,Q1r c)):=by
 rw[J61]at hl
 rw[F3pE,wr (by omega)]
 by_cases h:(a.2.length:Int)≤left
 ·rw[gF (by omega)]
  rcases Qa2 a.2 Q1r (fun left i=>F99 a left i) (by omega) (fun i h left h0=>by
   obtain⟨r,h1,h2⟩:=Qfp a.2[i] left h0 (hb _ (K3 h))
   rw[F99E,gT (by omega),gT (by omega),gT (by omega),J2 a.2 _ i h,h1,J0]
   rcases h2 with h2|⟨h2,h3,h4⟩
   ·rw[gT h2];exact .inl rfl
   ·rw[gF (by omega),up1 i (by omega),J1];exact .inr ⟨r,h2,h3,h4,rfl⟩) (fun left=>by
   rw[F99E,gF (by omega)]) (left-a.2.length) (by omega)with h1|⟨r,h1,h2,h3,h4⟩
  ·rw[h1];exact⟨-1,rfl,.inl (by omega)⟩
  ·rw[h1];exact⟨r,rfl,.inr ⟨h2,by omega,by omega,h4⟩⟩
 ·rw[gT (by omega)]
  exact⟨_,rfl,.inl (by omega)⟩
theorem Qds(c:DCommand)(left:Int)(h0:0≤left∧left≤1048576)(h1:c.1.2.length≤big)(hl:c.2.2.length≤big)(hb:∀d∈c.2.2,d.2.2.length≤big):∃r,F1j c left=some r∧(r<0∨(0≤r∧r≤left∧Q1l c)):=by
 rw[F1jE,Q7n c.1 left h0 h1,J0]
 by_cases h:(c.1.2.length:Int)≤left
 ·rw[if_pos h,gF (by omega)]
  obtain⟨r,h2,h3⟩:=Qdr c.2 (left-c.1.2.length) (by omega) hl hb
  rw[h2,J0]
  rcases h3 with h3|⟨h3,h4,h5,h6⟩
  ·rw[gT h3];exact⟨_,rfl,.inl (by omega)⟩
  ·rw[gF (by omega)];exact⟨_,rfl,.inr ⟨h3,by omega,⟨by omega,h5,h6⟩⟩⟩
 ·rw[if_neg h,gT (by omega)]
  exact⟨_,rfl,.inl (by omega)⟩
def Q6f(c:DCommand):Prop:=c.1.2.length≤big∧c.2.2.length≤big∧∀d∈c.2.2,d.2.2.length≤big
theorem Qbs(a:Bool×List DCommand)(left:Int)(h0:0≤left∧left≤1048576)(hl:a.2.length≤big)(hb:∀c∈a.2,Q6f c):∃r,F3d a left=some r∧(r<0∨(0≤r∧r≤left∧a.2.length≤1048576∧∀c∈a.2,Q1l c)):=by
 rw[J61]at hl
 rw[F3dE,wr (by omega)]
 by_cases h:(a.2.length:Int)≤left
 ·rw[gF (by omega)]
  rcases Qa2 a.2 Q1l (fun left i=>F7z a left i) (by omega) (fun i h left h0=>by
   obtain⟨b1,b2,b3⟩:=hb _ (K3 h)
   obtain⟨r,h1,h2⟩:=Qds a.2[i] left h0 b1 b2 b3
   rw[F7zE,gT (by omega),gT (by omega),gT (by omega),J2 a.2 _ i h,h1,J0]
   rcases h2 with h2|⟨h2,h3,h4⟩
   ·rw[gT h2];exact .inl rfl
   ·rw[gF (by omega),up1 i (by omega),J1];exact .inr ⟨r,h2,h3,h4,rfl⟩) (fun left=>by
   rw[F7zE,gF (by omega)]) (left-a.2.length) (by omega)with h1|⟨r,h1,h2,h3,h4⟩
  ·rw[h1];exact⟨-1,rfl,.inl (by omega)⟩
  ·rw[h1];exact⟨r,rfl,.inr ⟨h2,by omega,by omega,h4⟩⟩
 ·rw[gT (by omega)]
  exact⟨_,rfl,.inl (by omega)⟩
theorem Qgc{p:DProgram}(w:WfD tyProgram p):p.2.2.1.2.length≤big∧p.2.2.2.2.length≤big∧∀c∈p.2.2.2.2,Q6f c:=by
 obtain⟨_,_,h1,h2⟩:=w
 refine⟨h1.2.1,h2.2.1,fun c hc=> ?_⟩
 obtain⟨h3,h4⟩:=h2.2.2 c hc
 exact⟨h3.2.1,h4.2.1,fun d hd=>(h4.2.2 d hd).2.2.1⟩
theorem Qdt(p:DProgram)(w:WfD tyProgram p)(left:Int)(h0:0≤left∧left≤1048576):∃r,F67 p left=some r∧(r<0∨(0≤r∧r≤left∧Q7 p)):=by
 obtain⟨b1,b2,b3⟩:=Qgc w
 rw[F67E,Q7n p.2.2.1 left h0 b1,J0]
 by_cases h:(p.2.2.1.2.length:Int)≤left
 ·rw[if_pos h,gF (by omega)]
  obtain⟨r,h2,h3⟩:=Qbs p.2.2.2 (left-p.2.2.1.2.length) (by omega) b2 b3
  rw[h2,J0]
  rcases h3 with h3|⟨h3,h4,h5,h6⟩
  ·rw[gT h3];exact⟨_,rfl,.inl (by omega)⟩
  ·rw[gF (by omega)];exact⟨_,rfl,.inr ⟨h3,by omega,⟨by omega,h5,h6⟩⟩⟩
 ·rw[if_neg h,gT (by omega)]
  exact⟨_,rfl,.inl (by omega)⟩
def Q75(c:DChange):DChange:=(c.1,(false,c.2.2))
def Q3q(c:DCommand):DCommand:=((false,c.1.2),(false,c.2.2.map Q75))
def Q6(p:DProgram):DProgram:=(p.1,(p.2.1,((false,p.2.2.1.2),(false,p.2.2.2.2.map Q3q))))
theorem Qdw(a:Bool×List DChange)(hl:a.2.length≤1048576)(hs:∀c∈a.2,Q1r c):F3t a=some (false,a.2.map Q75):=by
 have hlim:lim=1099511627776:=rfl
 rw[F3tE,gT (by omega),gT (by omega),gT (by omega),gT (by omega),J1]
 exact J2y a.2 Q75 (fun o i=>F8u a o i) false (fun i h x hx=>by
  rw[F8uE,gT (by omega),gT (by omega),gT (by omega),J2 a.2 _ i h,F1aE,Q7p _ (hs _ (K3 h)),J0,J0,gT (by omega),gT (by simp only;omega),up1 i (by omega),J1,K5]
  rfl) (fun x hx=>by
  rw[F8uE,gF (by omega)]) (List.replicate (Int.toNat (a.2.length:Int)) (0,(true,[]))) (by simp)
theorem Qbu(a:Bool×List DCommand)(hl:a.2.length≤1048576)(hs:∀c∈a.2,Q1l c):F39 a=some (false,a.2.map Q3q):=by
 have hlim:lim=1099511627776:=rfl
 rw[F39E,gT (by omega),gT (by omega),gT (by omega),gT (by omega),J1]
 exact J2y a.2 Q3q (fun o i=>F8s a o i) false (fun i h x hx=>by
  obtain⟨s1,s2,s3⟩:=hs _ (K3 h)
  rw[F8sE,gT (by omega),gT (by omega),gT (by omega),J2 a.2 _ i h,F1iE,Q7p _ s1,J0,Qdw _ s2 s3,J0,J0,gT (by omega),gT (by simp only;omega),up1 i (by omega),J1,K5]
  rfl) (fun x hx=>by
  rw[F8sE,gF (by omega)]) (List.replicate (Int.toNat (a.2.length:Int)) ((true,[]),(true,[]))) (by simp)
theorem Qdx(p:DProgram)(hs:Q7 p):F5c p=some (Q6 p):=by
 obtain⟨s1,s2,s3⟩:=hs
 rw[F5cE,Q7p _ s1,J0,Qbu _ s2 s3,J0]
 rfl
theorem Q77{α:Type}(l:List α)(F:Int→Option (Bool ⊕ Unit))(hs:∀(i:Nat) (h:i<l.length),F (i:Int)=F ((i+1:Nat):Int))(he:F (l.length:Int)=some (.inr ())):F 0=some (.inr ()):=by
 have key:∀(d i:Nat),i+d=l.length→F (i:Int)=some (.inr ()):=by
  intro d
  induction d with
  |zero=>
   intro i hi
   obtain rfl:i=l.length:=by omega
   exact he
  |succ d ih=>intro i hi;rw[hs i (by omega)];exact ih (i+1) (by omega)
 simpa using key l.length 0 (by omega)
theorem Q68(f g:Bool)(l:List DChange)(hl:l.length≤1048576)(hs:∀c∈l,Q1r c):F3c (f,l) (g,l)=some true:=by
 rw[F3cE,bF (by simp)]
 have:=Q77 l (fun i=>F82 (f,l) (g,l) i) (fun i h=>by
  rw[F82E,gT (by simp only;omega),gT (by omega),gT (by simp only;omega),gT (by omega),gT (by simp only;omega),J2 l _ i h,F1bE,bF (by simp),Q24 l[i].2.1 l[i].2.1 l[i].2.2 (hs _ (K3 h)),J0,bF (by simp),J0,bF (by simp),up1 i (by omega),J1]) (by
  rw[F82E,gF (by simp only;omega)])
 rw[this]
 rfl
theorem Q5c(f g:Bool)(l:List DCommand)(hl:l.length≤1048576)(hs:∀c∈l,Q1l c):F3k (f,l) (g,l)=some true:=by
 rw[F3kE,bF (by simp)]
 have:=Q77 l (fun i=>F8l (f,l) (g,l) i) (fun i h=>by
  obtain⟨s1,s2,s3⟩:=hs _ (K3 h)
  rw[F8lE,gT (by simp only;omega),gT (by omega),gT (by simp only;omega),gT (by omega),gT (by simp only;omega),J2 l _ i h,F1eE,Q24 l[i].1.1 l[i].1.1 l[i].1.2 s1,J0,bF (by simp),Q68 l[i].2.1 l[i].2.1 l[i].2.2 s2 s3,J0,bF (by simp),J0,bF (by simp),up1 i (by omega),J1]) (by
  rw[F8lE,gF (by simp only;omega)])
 rw[this]
 rfl
theorem Q69(p:DProgram)(hs:Q7 p):F5p p p=some true:=by
 obtain⟨s1,s2,s3⟩:=hs
 rw[F5pE,bF (by simp),bF (by simp),Q24 p.2.2.1.1 p.2.2.1.1 p.2.2.1.2 s1,J0,bF (by simp),Q5c p.2.2.2.1 p.2.2.2.1 p.2.2.2.2 s2 s3,J0,bF (by simp)]
theorem Qi4{p:DProgram}(hs:Q7 p):Q7 (Q6 p):=by
 obtain⟨s1,s2,s3⟩:=hs
 refine⟨s1,by simpa[Q6]using s2,fun c hc=> ?_⟩
 obtain⟨c0,h1,rfl⟩:=Kv.1 hc
 obtain⟨q1,q2,q3⟩:=s3 c0 h1
 refine⟨q1,by simpa[Q3q]using q2,fun d hd=> ?_⟩
 obtain⟨d0,h2,rfl⟩:=Kv.1 hd
 exact q3 d0 h2
theorem Qi2(a:Bool×List Int)(hl:a.2.length≤1048576):F32 a=some (false,a.2):=by
 have hlim:=J5
 rw[F32E,gT (by omega),gT (by omega),gT (by omega),gT (by omega)]
 have:=J2y a.2 (fun x=>x) (fun o i=>F92 a o i) false (fun i h x hx=>by
  rw[F92E,gT (by omega),gT (by omega),gT (by omega),gT (by omega),gT (by simp only;omega),J2 a.2 _ i h,up1 i (by omega),J1,K5]) (fun x hx=>by
  rw[F92E,gF (by omega)]) (List.replicate (Int.toNat (a.2.length:Int)) (0:Int)) (by simp)
 rw[this,J0,List.map_id']
theorem Q3a(f g:Bool)(l:List Int)(hl:l.length≤1048576):F1d (f,l) (g,l)=some true:=by
 rw[F1dE,bF (by simp),Q77 l (fun i=>F8f (f,l) (g,l) i) (fun i h=>by
  rw[F8fE,gT (by simp only;omega),gT (by omega),gT (by simp only;omega),gT (by omega),gT (by simp only;omega),bF (by simp),up1 i (by omega),J1]) (by rw[F8fE,gF (by simp)]),J0]
theorem Qhz(a:Bool×List Int)(left:Int)(h0:0≤left∧left≤1048576)(hl:a.2.length≤big):F6i a left=some (if(a.2.length:Int)≤left then left-a.2.length else -1):=by
 rw[J61]at hl
 rw[F6iE,wr (by omega)]
 by_cases h:(a.2.length:Int)≤left
 ·rw[gF (by omega),if_pos h]
 ·rw[gT (by omega),if_neg h]
def Q2b(k:Int):Nat→List Int
 |0=>[]
 |n+1=>k::Q2b (k+1) n
theorem Q74(n:Nat):∀k:Int,(Q2b k n).length =n:=by
 induction n with
 |zero=>intro k;rfl
 |succ n ih=>intro k;simp[Q2b,ih]
theorem Q9t(d:Nat):∀(i:Nat) (b:Bool) (x:List Int) (k:Int),i+d=x.length→x.length≤1048576→0≤k→k+d≤4000000000000000000→F7c (b,x) k (i:Int)=some ((b,x.take i++Q2b k d),k+d):=by
 induction d with
 |zero=>
  intro i b x k hi hl hk hk2
  rw[F7cE,gF (by simp only;omega),K1i (by omega)]
  simp[Q2b]
 |succ d ih=>
  intro i b x k hi hl hk hk2
  rw[F7cE,gT (by simp only;omega),gT (by omega),gT (by simp only;omega),up1 i (by omega),wr (by omega),J1,K5,ih (i+1) b (x.set i k) (k+1) (by simp;omega) (by simpa using hl) (by omega) (by omega)]
  have e:(x.set i k).take (i+1)=x.take i++[k]:=by
   rw[K1b (by simpa using(by omega:i<x.length)),List.getElem_set_self,List.take_set_of_le (Ky _)]
  rw[e,Q2b,Kj,K23,show k+1+(d:Int)=k+((d+1:Nat):Int) by omega]
theorem Q7h(b:Bool)(x:List Int)(k:Int)(hl:x.length≤1048576)(h0:0≤k)(hk:k+x.length≤4000000000000000000):F20 (b,x) k=some ((b,Q2b k x.length),k+x.length):=by
 have:=Q9t x.length 0 b x k (by omega) hl h0 hk
 have h':F7c (b,x) k 0=_:=this
 rw[F20E,h',J0,List.take_zero,Kt]
theorem Q9g(d:Nat):∀(i:Nat) (b:Bool) (x:List Int) (k:Int),i+d=x.length→x.length≤1048576→0≤k→k+d≤4000000000000000000→x.drop i=Q2b k d→F7n (b,x) k (i:Int)=some (.inr (k+d)):=by
 induction d with
 |zero=>
  intro i b x k hi hl hk hk2 hx
  rw[F7nE,gF (by simp only;omega)]
  simp
 |succ d ih=>
  intro i b x k hi hl hk hk2 hx
  have hlt:i<x.length:=by omega
  rw[K2 hlt,Q2b]at hx
  obtain⟨hx1,hx2⟩:=List.cons.inj hx
  rw[F7nE,gT (by simp only;omega),gT (by omega),gT (by simp only;omega),J2 x _ i hlt,hx1,bF (by simp),up1 i (by omega),wr (by omega),J1,ih (i+1) b x (k+1) (by omega) hl (by omega) (by omega) hx2]
  congr 2
  omega
theorem Qac(b:Bool)(n:Nat)(k:Int)(hl:n≤1048576)(h0:0≤k)(hk:k+n≤4000000000000000000):F1s (b,Q2b k n) k=some (k+n):=by
 have h1:=Q74 n k
 have:=Q9g n 0 b (Q2b k n) k (by omega) (by omega) h0 (by omega) rfl
 have h':F7n (b,Q2b k n) k 0=_:=this
 rw[F1sE,h',J0]
theorem Q1s{α:Type}(l:List α)(i:Nat)(x z:α)(h:i<l.length):(l.set i x).getD i z=x:=by
 simp[K1,h]
def Q2p(k:Int):Nat→List DNode
 |0=>[]
 |n+1=>(k,IntKind.u64.wrap (k+1))::Q2p (k+2) n
theorem Q3p(n:Nat):∀k:Int,(Q2p k n).length =n:=by
 induction n with
 |zero=>intro k;rfl
 |succ n ih=>intro k;simp[Q2p,ih]
theorem Q8h(d:Nat):∀(i:Nat) (b:Bool) (x:List DNode) (k:Int),i+d=x.length→x.length≤1048576→0≤k→k+2*d≤4000000000000000000→F8q (b,x) k (i:Int)=some ((b,x.take i++Q2p k d),k+2*d):=by
 induction d with
 |zero=>
  intro i b x k hi hl hk hk2
  rw[F8qE,gF (by simp only;omega),K1i (by omega)]
  simp[Q2p]
 |succ d ih=>
  intro i b x k hi hl hk hk2
  have hlt:i<x.length:=by omega
  have hw:IntKind.i64.wrap (k+1)=k+1:=wr (by omega)
  have e1:(x.set i (k,(x.getD i (0,0)).2)).getD i (0,0)=(k,(x.getD i (0,0)).2):=Q1s x i _ _ hlt
  rw[F8qE,gT (by simp only;omega),gT (by omega),gT (by simp only;omega),gT (by omega),gT (by rw[Ko];simp only;omega),up1 i (by omega),hw,wr (by omega),J1]
  simp only[K5,e1,List.set_set]
  rw[ih (i+1) b (x.set i (k,IntKind.u64.wrap (k+1))) (k+1+1) (by rw[Ko];omega) (by rw[Ko];exact hl) (by omega) (by omega)]
  have e:(x.set i (k,IntKind.u64.wrap (k+1))).take (i+1)=x.take i++[(k,IntKind.u64.wrap (k+1))]:=by
   rw[K1b (by rw[Ko];exact hlt),List.getElem_set_self,List.take_set_of_le (Ky _)]
  rw[e,Q2p,Kj,K23,show k+1+1+2*(d:Int)=k+2*((d+1:Nat):Int) by omega,show k+1+1=k+2 by omega]
theorem Q4r(a:Bool×List DNode)(k:Int)(hl:a.2.length≤1048576)(h0:0≤k)(hk:k+2*a.2.length≤4000000000000000000):Ff a k=some ((a.1,Q2p k a.2.length),k+2*a.2.length):=by
 have h2:=Q8h a.2.length 0 a.1 a.2 k (by omega) hl h0 hk
 have h':F8q (a.1,a.2) k 0=_:=h2
 rw[FfE,h',J0,List.take_zero,Kt]
theorem Q5m(a:Bool×List DNode)(k:Int)(hl:a.2.length≤1048576)(h0:0≤k)(hk:k+2*1048576≤4000000000000000000):∃y k',y.length=a.2.length∧Ff a k=some ((a.1,y),k')∧k≤k'∧k'≤k+2*1048576:=
 ⟨_,_,Q3p _ _,Q4r a k hl h0 (by omega),by omega,by omega⟩
theorem Q8f{α:Type}(P:α→Prop)(A:Int)(hA:0≤A)(F:Bool×List α→Int→Int→Option ((Bool×List α)×Int))(b:Bool)(n:Nat)
  (hs:∀(i:Nat) (x:List α) (k:Int) (h:i<x.length),x.length=n→P x[i]→0≤k→k+A≤4000000000000000000→∃e k',F (b,x) k (i:Int)=F (b,x.set i e) k' ((i+1:Nat):Int)∧k≤k'∧k'≤k+A)
  (he:∀(x:List α) (k:Int),x.length=n→F (b,x) k (n:Int)=some ((b,x),k))(d:Nat):∀(i:Nat) (x:List α) (k:Int),i+d=n→x.length=n→(∀e∈x.drop i,P e)→0≤k→k+d*A≤4000000000000000000→
  ∃y k',y.length=x.length∧F (b,x) k (i:Int)=some ((b,y),k')∧k≤k'∧k'≤k+d*A:=by
 induction d with
 |zero=>
  intro i x k hi hx hp hk hk2
  obtain rfl:i=n:=by omega
  exact⟨x,k,rfl,he x k hx,by omega,by simp⟩
 |succ d ih=>
  intro i x k hi hx hp hk hk2
  have e1:((d+1:Nat):Int)*A=d*A+A:=by rw[Int.natCast_add,Int.add_mul];simp
  have e2:0≤(d:Int)*A:=Int.mul_nonneg (by omega) hA
  rw[e1]at hk2
  have hlt:i<x.length:=by omega
  rw[K2 hlt]at hp
  obtain⟨e,k1,q2,q3,q4⟩:=hs i x k hlt hx (hp _ Kk) hk (by omega)
  obtain⟨y,k2,r1,r2,r3,r4⟩:=ih (i+1) (x.set i e) k1 (by omega) (by rw[Ko];exact hx) (fun c hc=>by
   rw[List.drop_set_of_lt (by omega)]at hc
   exact hp c (K9 _ hc)) (by omega) (by omega)
  rw[Ko]at r1
  exact⟨y,k2,r1,by rw[q2,r2],by omega,by rw[e1];omega⟩
theorem Q9s(a:Bool×List DChange)(k:Int)(hl:a.2.length≤1048576)(hs:∀c∈a.2,Q1r c)(h0:0≤k)(hk:k+1048576*2097153≤4000000000000000000):∃y k',y.length=a.2.length∧F3l a k=some ((a.1,y),k')∧k≤k'∧k'≤k+1048576*2097153:=by
 obtain⟨y,k',h1,h2,h3,h4⟩:=Q8f Q1r 2097153 (by omega) F91 a.1 a.2.length (fun i x k h hx hp hk hk2=>by
  have hw:IntKind.i64.wrap (k+1)=k+1:=wr (by omega)
  obtain⟨y,k',q1,q2,q3,q4⟩:=Q5m x[i].2 (k+1) hp (by omega) (by omega)
  refine⟨(k,(x[i].2.1,y)),k',?_,by omega,by omega⟩
  have e0:x.getD i (0,(true,[]))=x[i]:=by simp[K1,h]
  have e1:(x.set i (k,x[i].2)).getD i (0,(true,[]))=(k,x[i].2):=Q1s x i _ _ h
  rw[F91E,gT (by simp only;omega),gT (by omega),gT (by simp only;omega),gT (by omega),gT (by rw[Ko];simp only;omega),up1 i (by omega),hw]
  have q2':Ff (x[i].2.1,x[i].2.2) (k+1)=some ((x[i].2.1,y),k'):=q2
  simp only[K5,e0,e1,q2',J0,J1,List.set_set]) (fun x k hx=>by rw[F91E,gF (by simp only;omega)]) a.2.length 0 a.2 k (by omega) rfl (by simpa using hs) h0 (by omega)
 have h':F91 (a.1,a.2) k 0=_:=h2
 exact⟨y,k',h1,by rw[F3lE,h',J0],h3,by omega⟩
theorem Q8g(a:Bool×List DCommand)(k:Int)(hl:a.2.length≤1048576)(hs:∀c∈a.2,Q1l c)(h0:0≤k)(hk:k+1048576*2199026401280≤4000000000000000000):∃y k',y.length=a.2.length∧F3o a k=some ((a.1,y),k')∧k≤k'∧k'≤k+1048576*2199026401280:=by
 obtain⟨y,k',h1,h2,h3,h4⟩:=Q8f Q1l 2199026401280 (by omega) F7i a.1 a.2.length (fun i x k h hx hp hk hk2=>by
  obtain⟨y,k1,q1,q2,q3,q4⟩:=Q5m x[i].1 k hp.1 (by omega) (by omega)
  obtain⟨z,k2,r1,r2,r3,r4⟩:=Q9s x[i].2 k1 hp.2.1 hp.2.2 (by omega) (by omega)
  refine⟨((x[i].1.1,y),(x[i].2.1,z)),k2,?_,by omega,by omega⟩
  have e0:x.getD i ((true,[]),(true,[]))=x[i]:=by simp[K1,h]
  have e1:(x.set i ((x[i].1.1,y),x[i].2)).getD i ((true,[]),(true,[]))=((x[i].1.1,y),x[i].2):=Q1s x i _ _ h
  have q2':Ff (x[i].1.1,x[i].1.2) k=some ((x[i].1.1,y),k1):=q2
  have r2':F3l (x[i].2.1,x[i].2.2) k1=some ((x[i].2.1,z),k2):=r2
  rw[F7iE,gT (by simp only;omega),gT (by omega),gT (by simp only;omega),up1 i (by omega)]
  simp only[K5,e0,q2',J0]
  rw[gT (by omega),gT (by omega)]
  simp only[e1,r2',J0,J1,List.set_set]) (fun x k hx=>by rw[F7iE,gF (by simp only;omega)]) a.2.length 0 a.2 k (by omega) rfl (by simpa using hs) h0 (by omega)
 have h':F7i (a.1,a.2) k 0=_:=h2
 exact⟨y,k',h1,by rw[F3oE,h',J0],h3,by omega⟩
theorem Q9u(p:DProgram)(hs:Q7 p)(k:Int)(h0:0≤k)(hk:k≤1000000000):∃y z k',F5w p.1 p.2.1 (p.2.2.1.1,p.2.2.1.2) (p.2.2.2.1,p.2.2.2.2) k=some (y,(z,k'))∧k≤k'∧k'≤3000000000000000000:=by
 obtain⟨y,k1,q1,q2,q3,q4⟩:=Q5m p.2.2.1 k hs.1 (by omega) (by omega)
 obtain⟨z,k2,r1,r2,r3,r4⟩:=Q8g p.2.2.2 k1 hs.2.1 hs.2.2 (by omega) (by omega)
 have q2':Ff (p.2.2.1.1,p.2.2.1.2) k=_:=q2
 have r2':F3o (p.2.2.2.1,p.2.2.2.2) k1=_:=r2
 exact⟨_,_,k2,by rw[F5wE,q2',J0,r2',J0],by omega,by omega⟩
def Q3m(a:List (Bool×List DNode)):Prop:=a.length≤1048576∧∀x∈a,x.2.length≤1048576
theorem Qfq(a:Bool×List (Bool×List DNode))(left:Int)(h0:0≤left∧left≤1048576)(hl:a.2.length≤big)(hb:∀x∈a.2,x.2.length≤big):∃r,F2y a left=some r∧(r<0∨(0≤r∧r≤left∧Q3m a.2)):=by
 rw[J61]at hl
 rw[F2yE,wr (by omega)]
 by_cases h:left-(a.2.length:Int)<0
 ·rw[gT h]
  exact⟨-1,rfl,.inl (by omega)⟩
 ·rw[gF h]
  rcases Qa2 a.2 (fun x=>x.2.length≤1048576) (fun l i=>F8o a l i) (by omega) (fun i hi l hl2=>by
   rw[F8oE,gT (by omega),gT (by omega),gT (by omega),J2 a.2 _ i hi,Q7n _ l hl2 (hb _ (K3 hi)),J0,up1 i (by omega),J1]
   by_cases c:(a.2[i].2.length :Int)≤l
   ·rw[if_pos c,gF (by omega)]
    exact .inr ⟨_,by omega,by omega,by omega,rfl⟩
   ·rw[if_neg c,gT (by omega)]
    exact .inl rfl) (fun l=>by rw[F8oE,gF (by omega)]) (left-a.2.length) (by omega)with h1|⟨r,h1,h2,h3,h4⟩
  ·exact⟨-1,by rw[h1,J0],.inl (by omega)⟩
  ·exact⟨r,by rw[h1,J0],.inr ⟨h2,by omega,by omega,h4⟩⟩
def Q2s(a:List (Bool×List DNode)):List (Bool×List DNode):=a.map fun x=>(false,x.2)
theorem Qc5{a:List (Bool×List DNode)}(h:Q3m a):Q3m (Q2s a):=by
 refine⟨by rw[Q2s,Ki];exact h.1,fun x hx=> ?_⟩
 obtain⟨y,hy,rfl⟩:=Kv.1 hx
 exact h.2 y hy
theorem Qfs(a:Bool×List (Bool×List DNode))(hs:Q3m a.2):F3n a=some (false,Q2s a.2):=by
 have hlim:=J5
 have hl:=hs.1
 rw[F3nE,gT (by omega),gT (by omega),gT (by omega),gT (by omega)]
 have:=J2y a.2 (fun x=>(false,x.2)) (fun o i=>F7j a o i) false (fun i h x hx=>by
  rw[F7jE,gT (by omega),gT (by omega),gT (by omega),J2 a.2 _ i h,Q7p _ (hs.2 _ (K3 h)),J0,gT (by omega),gT (by simp only;omega),up1 i (by omega),J1,K5]) (fun x hx=>by
  rw[F7jE,gF (by omega)]) (List.replicate (Int.toNat (a.2.length:Int)) ((true,[]):Bool×List DNode)) (by simp)
 rw[this,J0]
 rfl
theorem Q76(f g:Bool)(a b:List (Bool×List DNode))(hs:Q3m a)(h:a.map Prod.snd=b.map Prod.snd):F3b (f,a) (g,b)=some true:=by
 have hl:=hs.1
 have hlen:a.length=b.length:=by have:=congrArg List.length h;simpa using this
 rw[F3bE,bF (by simp[hlen]),Q77 a (fun i=>F7y (f,a) (g,b) i) (fun i hi=>by
  have hi2:i<b.length:=by omega
  have e:b[i].2 =a[i].2 :=by
   have h1:(a.map Prod.snd)[i]'(by simpa using hi)=(b.map Prod.snd)[i]'(by simpa using hi2):=by simp only[h]
   simpa using h1.symm
  have e2:Fh a[i] b[i]=some true:=by
   have:=Q24 a[i].1 b[i].1 a[i].2 (hs.2 _ (K3 hi))
   rw[show b[i]=(b[i].1,a[i].2) by rw[←e]]
   exact this
  rw[F7yE,gT (by simp only;omega),gT (by omega),gT (by simp only;omega),gT (by omega),gT (by simp only;omega),J2 a _ i hi,J2 b _ i hi2,e2,J0,K6,cond_false,up1 i (by omega),J1]) (by rw[F7yE,gF (by simp)]),J0]
def Q2f(a:List (Bool×List DNode)):Nat:=(a.map fun x=>x.2.length).sum
def Q49(k:Int):List (Bool×List DNode)→List (Bool×List DNode)
 |[]=>[]
 |x::a=>(x.1,Q2p k x.2.length)::Q49 (k+2*x.2.length) a
theorem Q7i(b:Bool)(d:Nat):∀(i:Nat) (x:List (Bool×List DNode)) (k:Int),i+d=x.length→Q3m x→0≤k→k+2*(Q2f (x.drop i))≤4000000000000000000→F94 (b,x) k (i:Int)=some ((b,x.take i++Q49 k (x.drop i)),k+2*Q2f (x.drop i)):=by
 induction d with
 |zero=>
  intro i x k hi hs hk hk2
  rw[F94E,gF (by simp only;omega),K1i (by omega),K8 (by omega)]
  simp[Q49,Q2f]
 |succ d ih=>
  intro i x k hi hs hk hk2
  have hl:=hs.1
  have hlt:i<x.length:=by omega
  rw[K2 hlt]at hk2⊢
  simp only[Q2f,K14,List.sum_cons]at hk2⊢
  have hm:=Q4r x[i] k (hs.2 _ (K3 hlt)) hk (by omega)
  have hm':Ff (x[i].1,x[i].2) k=_:=hm
  have hd:(x.set i (x[i].1,Q2p k x[i].2.length)).drop (i+1)=x.drop (i+1):=List.drop_set_of_lt (by omega)
  rw[F94E,gT (by simp only;omega),gT (by omega),gT (by simp only;omega),J2 x _ i hlt,hm',J0,up1 i (by omega),J1,K5]
  have h2:=ih (i+1) (x.set i (x[i].1,Q2p k x[i].2.length)) (k+2*x[i].2.length) (by rw[Ko];omega) ⟨by rw[Ko];exact hl,fun y hy=>by
   rcases List.mem_or_eq_of_mem_set hy with h|h
   ·exact hs.2 y h
   ·rw[h,Q3p];exact hs.2 _ (K3 hlt)⟩ (by omega) (by rw[hd,Q2f];omega)
  rw[hd]at h2
  rw[h2]
  have e:(x.set i (x[i].1,Q2p k x[i].2.length)).take (i+1)=x.take i++[(x[i].1,Q2p k x[i].2.length)]:=by
   rw[K1b (by rw[Ko];exact hlt),List.getElem_set_self,List.take_set_of_le (Ky _)]
  rw[e,Q49,Kj,K23]
  congr 2
  simp only[Q2f]
  omega
theorem Qdo(a:List (Bool×List DNode))(hs:∀x∈a,x.2.length≤1048576):Q2f a≤a.length*1048576:=by
 induction a with
 |nil=>simp[Q2f]
 |cons x a ih=>
  have h1:=hs x Kk
  have h2:=ih fun y hy=>hs y (K9 _ hy)
  simp only[Q2f,K14,List.sum_cons,Kp]at h2⊢
  rw[K1a]
  omega
theorem Q55{a:List (Bool×List DNode)}(hs:Q3m a):Q2f a≤1099511627776:=by
 have h1:=Qdo a hs.2
 have h2:a.length*1048576≤1048576*1048576:=Ku _ hs.1
 omega
theorem Qbl(b:Bool)(a:List (Bool×List DNode))(k:Int)(hs:Q3m a)(h0:0≤k)(hk:k≤3500000000000000000):F2x (b,a) k=some ((b,Q49 k a),k+2*Q2f a):=by
 have hz:=Q55 hs
 have h:=Q7i b a.length 0 a k (by omega) hs h0 (by rw[Kf];omega)
 rw[Kf,List.take_zero,Kt]at h
 have h':F94 (b,a) k 0=_:=h
 rw[F2xE,h',J0]
def Q6w(a:List (Bool×List Int)):Prop:=a.length≤1048576∧∀x∈a,x.2.length≤1048576
def need(op:Int):Int×Int×Int:=
 if op=1∨op=2 then(0,1,1)else if op=20 then(0,2,2)else if op=13 then(1,1,1)else if op=19 then(1,2,2)
 else if 3≤op∧op≤12 then(2,1,1)else if 14≤op∧op≤16 then(2,1,2)else if op=17∨op=18 then(2,2,2)else(0,0,0)
theorem Qbn(op:Int):need op=(0,1,1)∨need op=(0,2,2)∨need op=(1,1,1)∨need op=(1,2,2)∨need op=(2,1,1)∨need op=(2,1,2)∨need op=(2,2,2)∨need op=(0,0,0):=by
 unfold need
 repeat' split
 all_goals simp
theorem Q3x(op:Int):∃m:Nat,(need op).1 =(m:Int)∧m≤2:=by
 rcases Qbn op with h|h|h|h|h|h|h|h<;>rw[h]
 ·exact⟨0,rfl,by omega⟩
 ·exact⟨0,rfl,by omega⟩
 ·exact⟨1,rfl,by omega⟩
 ·exact⟨1,rfl,by omega⟩
 ·exact⟨2,rfl,by omega⟩
 ·exact⟨2,rfl,by omega⟩
 ·exact⟨2,rfl,by omega⟩
 ·exact⟨0,rfl,by omega⟩
theorem Qaj(op:Int):F4j op=some (need op):=by
 rw[F4jE,Q1x,Q1x]
 unfold need
 by_cases h1:op=1
 ·simp[h1]
 ·by_cases h2:op=2
  ·simp[h2]
  ·by_cases h3:op=20
   ·simp[h3]
   ·by_cases h4:op=13
    ·simp[h4]
    ·by_cases h5:op=19
     ·simp[h5]
     ·by_cases h6:3≤op∧op≤12
      ·simp[h1,beqF h1,h2,beqF h2,h3,beqF h3,h4,beqF h4,h5,beqF h5,h6]
      ·by_cases h8:14≤op∧op≤16
       ·have h6':¬(3≤op∧op≤12):=h6
        simp[h1,beqF h1,h2,beqF h2,h3,beqF h3,h4,beqF h4,h5,beqF h5,h6',h8]
       ·by_cases h10:op=17
        ·simp[h10]
        ·by_cases h11:op=18
         ·simp[h11]
         ·have h6':¬(3≤op∧op≤12):=h6
          have h8':¬(14≤op∧op≤16):=h8
          simp[h1,beqF h1,h2,beqF h2,h3,beqF h3,h4,beqF h4,h5,beqF h5,h6',h8',h10,beqF h10,h11,beqF h11]
def Q9v(op:Int):Int×Int×Int:=if op=1∨op=2 then(0,0,1)else if op=20 then(0,0,2)else need op
theorem Q6p(op:Int):F27 op=some (Q9v op):=by
 rw[F27E]
 unfold Q9v need
 by_cases h1:op=1
 ·simp[h1]
 ·by_cases h2:op=2
  ·simp[h2]
  ·by_cases h3:op=20
   ·simp[h3]
   ·by_cases h4:op=13
    ·simp[h4]
    ·by_cases h5:op=19
     ·simp[h5]
     ·by_cases h6:3≤op
      ·by_cases h7:op≤12
       ·simp[h1,beqF h1,h2,beqF h2,h3,beqF h3,h4,beqF h4,h5,beqF h5,h6,h7]
       ·by_cases h8:14≤op
        ·by_cases h9:op≤16
         ·simp[h1,beqF h1,h2,beqF h2,h3,beqF h3,h4,beqF h4,h5,beqF h5,h6,h7,h8,h9]
         ·by_cases h10:op=17
          ·simp[h10]
          ·by_cases h11:op=18
           ·simp[h11]
           ·simp[h1,beqF h1,h2,beqF h2,h3,beqF h3,h4,beqF h4,h5,beqF h5,h6,h7,h8,h9,h10,beqF h10,h11,beqF h11]
        ·have h10:¬op=17:=by omega
         have h11:¬op=18:=by omega
         simp[h1,beqF h1,h2,beqF h2,h3,beqF h3,h4,beqF h4,h5,beqF h5,h6,h7,h8,h10,beqF h10,h11,beqF h11]
      ·have h8:¬14≤op:=by omega
       have h10:¬op=17:=by omega
       have h11:¬op=18:=by omega
       simp[h1,beqF h1,h2,beqF h2,h3,beqF h3,h4,beqF h4,h5,beqF h5,h6,h8,h10,beqF h10,h11,beqF h11]
theorem Q5o(op:Int):(Q9v op).1 =(need op).1 ∧(Q9v op).2.2 =(need op).2.2 ∧((need op).1 =0∨(Q9v op).2.1 =(need op).2.1):=by
 unfold Q9v
 by_cases h1:op=1∨op=2
 ·simp[need,h1]
 ·by_cases h2:op=20
  ·simp[need,h2]
  ·simp[h1,h2]
def Q2d(wide vars op n:Int):Bool:=if op=1 then Q2z wide n else if op=2 then decide (n<vars)else if op=20 then decide (n<2)else n==0
theorem l2N(wide vars:Int)(x:DNode)(hv:0≤vars∧vars≤4)(h:U64 x.2):F3a wide vars x=some (Q2d wide vars x.1 x.2):=by
 rw[F3aE,Q2m wide x.2 h,wru (by omega)]
 unfold Q2d
 by_cases a1:x.1=1
 ·simp[a1]
 ·by_cases a2:x.1=2
  ·simp[a2]
  ·by_cases a3:x.1=20
   ·simp[a3]
   ·simp[a1,a2,a3,beqF a1,beqF a2,beqF a3]
theorem Q9k(wide vars:Int)(x:DNode)(hv:0≤vars∧vars≤4):F5h wide vars x=some (Q2d wide vars x.1 x.2):=by
 rw[F5hE,Q2j wide x.2,wru (by omega)]
 unfold Q2d
 by_cases a1:x.1=1
 ·simp[a1]
 ·by_cases a2:x.1=2
  ·simp[a2]
  ·by_cases a3:x.1=20
   ·simp[a3]
    omega
   ·simp[a1,a2,a3,beqF a1,beqF a2,beqF a3]
def Q5i(wide vars:Int)(st:List Int)(x:DNode):Option (List Int):=
 if(need x.1).2.2 =0 then none else if Q2d wide vars x.1 x.2=true then
  (if(st.length:Int)<(need x.1).1 then none else if(st.drop (st.length-(need x.1).1.toNat)).all (fun y=>y==(need x.1).2.1)=true then some (st.take (st.length-(need x.1).1.toNat)++[(need x.1).2.2])else none)
 else none
def Q2c(wide vars:Int):List DNode→List Int→Option (List Int)
 |[],st=>some st
 |x::xs,st=>(Q5i wide vars st x).bind (Q2c wide vars xs)
def Qe(wide vars:Int)(t:List DNode):Int:=
 if 1≤wide∧wide≤64∧1≤vars∧vars≤4∧1≤t.length∧t.length≤48 then(match Q2c wide vars t []with
  |some [a]=>a
  |_=>0)else 0
theorem Qcz(wide vars part own n i:Int)(t:Bool×List DNode)(m:Nat):∀(b:Bool) (st:List Int),m≤st.length→st.length<1000→
  F90 wide vars (b,st) (m:Int) part own t n i=if(st.drop (st.length-m)).all (fun y=>y==part)=true then some (.inr (b,st.take (st.length-m)))else some (.inl 0):=by
 induction m with
 |zero=>
  intro b st hm hs
  rw[F90E,gF (by omega)]
  simp
 |succ m ih=>
  intro b st hm hs
  rcases List.eq_nil_or_concat st with rfl|⟨st',a,rfl⟩
  ·simp at hm
  ·rw[List.concat_eq_append]at *
   simp only[Kg,K1g]at hm hs⊢
   have e1:IntKind.i64.wrap (((st'.length+1:Nat):Int)-1)=(st'.length:Int):=by rw[wr (by omega)];omega
   have e2:IntKind.i64.wrap (((m+1:Nat):Int)-1)=(m:Int):=by rw[wr (by omega)];omega
   have e3:(st'++[a]).getD (Int.toNat (st'.length:Int)) 0=a:=by
    rw[J2 _ _ _ (by simp)]
    simp
   have e4:(st'++[a]).take st'.length=st':=List.take_left' rfl
   rw[F90E]
   simp only[Kg,K1g]
   rw[e1,e2,e3,gT (by omega),gT (by omega),gT (by omega),gT (by omega),gT (by omega),K5,e4,Kf,J1,
    show st'.length+1-(m+1)=st'.length-m by omega,List.drop_append_of_le_length (by omega),List.all_append,List.take_append_of_le_length (by omega)]
   by_cases ha:a=part
   ·rw[bF (by simp[ha]),ih b st' (by omega) (by omega)]
    simp[ha]
   ·rw[bT (by simp[ha])]
    simp[ha]
theorem Qcy(wide vars:Int)(t:Bool×List DNode)(ht:t.2.length≤48)(hv:0≤vars∧vars≤4)(hw:∀x∈t.2,U64 x.2)(d:Nat):∀(i:Nat) (b:Bool) (st:List Int),i+d=t.2.length→st.length≤i→
  (Q2c wide vars (t.2.drop i) st=none∧F9u wide vars (b,st) t (t.2.length:Int) (i:Int)=some (.inl 0))∨∃b' s,Q2c wide vars (t.2.drop i) st=some s∧F9u wide vars (b,st) t (t.2.length:Int) (i:Int)=some (.inr (b',s)):=by
 induction d with
 |zero=>
  intro i b st hi hs
  rw[F9uE,gF (by omega),K8 (by omega)]
  exact .inr ⟨b,st,rfl,rfl⟩
 |succ d ih=>
  intro i b st hi hs
  have hlt:i<t.2.length:=by omega
  have hx:=hw _ (K3 hlt)
  have hlim:lim=1099511627776:=rfl
  rw[F9uE,gT (by omega),gT (by omega),gT (by omega),J2 t.2 _ i hlt,Qaj,J0,K2 hlt]
  simp only[Q2c,Q5i]
  rw[l2N wide vars _ hv hx]
  by_cases h0:(need t.2[i].1).2.2 =0
  ·rw[bT (by simp[h0]),if_pos h0];exact .inl ⟨rfl,rfl⟩
  ·rw[bF (by simp[h0]),if_neg h0,J0]
   cases hl:Q2d wide vars t.2[i].1 t.2[i].2 with
   |false=>exact .inl ⟨rfl,rfl⟩
   |true=>
    rw[bF (by simp),if_pos rfl]
    by_cases hn:(st.length:Int)<(need t.2[i].1).1
    ·rw[gT hn,if_pos hn];exact .inl ⟨rfl,rfl⟩
    ·rw[gF hn,if_neg hn]
     obtain⟨m,hm,hm2⟩:=Q3x t.2[i].1
     rw[hm]at hn⊢
     rw[K5,Qcz wide vars _ _ _ _ t m b st (by omega) (by omega)]
     by_cases ha:(st.drop (st.length-m)).all (fun y=>y==(need t.2[i].1).2.1)=true
     ·rw[if_pos ha,if_pos ha]
      simp only[J0]
      rw[gT (by simp;omega),up1 i (by omega),J1]
      exact ih (i+1) _ _ (by omega) (by simp;omega)
     ·rw[if_neg ha,if_neg ha,J0]
      exact .inl ⟨rfl,rfl⟩
theorem Qg4(wide vars:Int)(t:Bool×List DNode)(hw:∀x∈t.2,U64 x.2):Fw wide vars t=some (Qe wide vars t.2):=by
 rw[FwE,Q8b,Q1x,Q1x,J0,J0,J0]
 unfold Qe
 by_cases h1:1≤wide∧wide≤64
 ·by_cases h3:1≤vars∧vars≤4
  ·by_cases h5:1≤(t.2.length:Int)∧(t.2.length:Int)≤48
   ·rw[bF (by simp[h1]),bF (by simp[h3]),bF (by simp;omega),if_pos (by omega)]
    rcases Qcy wide vars t (by omega) (by omega) hw t.2.length 0 true [] (by omega) (by simp)with⟨k1,k2⟩|⟨b,s,k1,k2⟩
    ·rw[show((0:Nat):Int)=0 from rfl]at k2
     rw[k2,J0]
     rw[Kf]at k1
     rw[k1]
    ·rw[show((0:Nat):Int)=0 from rfl]at k2
     rw[k2,J0]
     rw[Kf]at k1
     rw[k1]
     match s with
     |[]=>simp
     |[a]=>simp
     |a::b::st=>
      have:(((a::b::st).length :Int) !=1)=true:=by simp;omega
      simp only
      rw[bT this]
   ·rw[bF (by simp[h1]),bF (by simp[h3]),bT (by simp;omega),if_neg (by omega)]
  ·rw[bF (by simp[h1]),bT (by simp;omega),if_neg (by omega)]
 ·rw[bT (by simp;omega),if_neg (by omega)]
theorem Q3u{wide vars:Int}{t:List DNode}(h:Qe wide vars t≠0):1≤wide∧wide≤64∧1≤vars∧vars≤4∧1≤t.length∧t.length≤48:=by
 unfold Qe at h
 split at h
 ·assumption
 ·exact absurd rfl h
theorem Q6k(wide vars:Int):∀(xs:List DNode) (st r:List Int),Q2c wide vars xs st=some r→∀h:xs≠[],(∃r',r=r'++[(need (xs.getLast h).1).2.2])∧(need (xs.getLast h).1).2.2 ≠0:=by
 intro xs
 induction xs with
 |nil=>intro st r _ h;exact absurd rfl h
 |cons x xs ih=>
  intro st r hr h
  simp only[Q2c,Kh]at hr
  obtain⟨s,h1,h2⟩:=hr
  cases xs with
  |nil=>
   simp only[Q2c,K0]at h2
   subst h2
   simp only[List.getLast_singleton]
   unfold Q5i at h1
   split at h1
   ·simp at h1
   ·rename_i hne
    split at h1
    ·split at h1
     ·simp at h1
     ·split at h1
      ·simp only[K0]at h1
       exact⟨⟨_,h1.symm⟩,hne⟩
      ·simp at h1
    ·simp at h1
  |cons y ys=>
   have:=ih s r h2 (by simp)
   rwa[List.getLast_cons (by simp)]
theorem Q6l{wide vars:Int}{t:List DNode}(h:Qe wide vars t≠0)(hne:t≠[]):Q2c wide vars t []=some [Qe wide vars t]∧Qe wide vars t=(need (t.getLast hne).1).2.2 :=by
 unfold Qe at h⊢
 split at h
 ·rename_i hc
  rw[if_pos hc]
  split at h
  ·rename_i a ha
   obtain⟨⟨r',e⟩,h0⟩:=Q6k wide vars t [] [a] ha hne
   have hr:r'=[]:=by
    have:=congrArg List.length e
    simp at this
    exact this
   subst hr
   rw[ha]
   exact⟨rfl,by simpa using e⟩
  ·exact absurd rfl h
 ·exact absurd rfl h
theorem Q73(b:Bool)(l:List Int)(a:Int)(hl:l.length≤1000):F74 (b,l) (a,())=some (l.any fun y=>a !=y):=by
 rw[F74E,F3qE]
 exact Jc (Ja l (fun y=>a !=y) (fun i=>F8p (b,l) (a,()) (l.length:Int) i) (fun i h=>by
  rw[F8pE,gT (by omega),gT (by omega),gT (by simp only;omega),J2 l _ i h,F5xE,J0,up1 i (by omega),J1]
  simp only[bne_comm]) (by rw[F8pE,gF (by omega)]))
theorem Q9f(wide vars:Int)(t:Bool×List DNode)(ht:t.2.length≤48)(hv:0≤vars∧vars≤4)(d:Nat):∀(i:Nat) (b:Bool) (st:List Int),i+d=t.2.length→st.length≤i→
  (Q2c wide vars (t.2.drop i) st=none∧F8i wide vars (b,st) t (t.2.length:Int) (i:Int)=some (.inl false))∨∃b' s,Q2c wide vars (t.2.drop i) st=some s∧F8i wide vars (b,st) t (t.2.length:Int) (i:Int)=some (.inr (b',s)):=by
 induction d with
 |zero=>
  intro i b st hi hs
  rw[F8iE,gF (by omega),K8 (by omega)]
  exact .inr ⟨b,st,rfl,rfl⟩
 |succ d ih=>
  intro i b st hi hs
  have hlt:i<t.2.length:=by omega
  obtain⟨p1,p2,p3⟩:=Q5o t.2[i].1
  have hlim:lim=1099511627776:=rfl
  rw[F8iE,gT (by omega),gT (by omega),gT (by omega),J2 t.2 _ i hlt,Q6p,J0,K2 hlt,Q9k wide vars _ hv,p1,p2]
  simp only[Q2c]
  obtain⟨m,hm,hm2⟩:=Q3x t.2[i].1
  rw[hm]
  by_cases h0:(need t.2[i].1).2.2 =0
  ·rw[bT (by simp[h0])];exact .inl ⟨by simp[Q5i,h0],rfl⟩
  ·rw[bF (by simp[h0]),J0]
   cases hl:Q2d wide vars t.2[i].1 t.2[i].2 with
   |false=>exact .inl ⟨by simp[Q5i,hl,h0],rfl⟩
   |true=>
    rw[bF (by simp)]
    by_cases hn:(st.length:Int)<(m:Int)
    ·rw[wr (by omega),gT (by omega)]
     exact .inl ⟨by simp[Q5i,hl,h0,hm,hn],rfl⟩
    ·have e:IntKind.i64.wrap ((st.length:Int)-(m:Int))=((st.length-m:Nat):Int):=by rw[wr (by omega)];omega
     have ek:Q5i wide vars st t.2[i]=if(st.drop (st.length-m)).all (fun y=>y==(need t.2[i].1).2.1)=true then some (st.take (st.length-m)++[(need t.2[i].1).2.2])else none:=by
      unfold Q5i
      rw[if_neg h0,if_pos hl,hm,if_neg hn,K5]
     have ea:(st.drop (st.length-m)).any (fun y=>(Q9v t.2[i].1).2.1 !=y)= !(st.drop (st.length-m)).all (fun y=>y==(need t.2[i].1).2.1):=by
      rcases p3 with p3|p3
      ·have:m=0:=by omega
       subst this
       simp
      ·rw[p3,List.not_all_eq_any_not]
       congr 1
       funext y
       rw[bne,Bool.beq_comm]
     rw[e,gF (by omega),gT (by omega),gT (by omega),K5,List.take_length,Q73 b (st.drop (st.length-m)) _ (by simp;omega),J0,ea,ek]
     cases ha:(st.drop (st.length-m)).all (fun y=>y==(need t.2[i].1).2.1)with
     |false=>exact .inl ⟨rfl,rfl⟩
     |true=>
      rw[bF (by simp),gT (by omega),gT (by omega),gT (by simp;omega),up1 i (by omega),J1,if_pos rfl,Kf]
      simp only[J0]
      exact ih (i+1) _ _ (by omega) (by simp;omega)
theorem Q89(n:Int):F52 n=some (decide (1≤n∧n≤4)):=by
 rw[F52E]
 by_cases h:n≥1
 ·rw[gT h];congr 1;apply decide_eq_decide.mpr;omega
 ·rw[gF h];congr 1;symm;apply decide_eq_false;omega
theorem Qez(wide vars:Int)(t:Bool×List DNode):F1c wide vars t=some (Qe wide vars t.2 !=0):=by
 rw[F1cE,Q5h,Q89,J0,J0]
 by_cases h1:1≤wide∧wide≤64
 ·by_cases h3:1≤vars∧vars≤4
  ·by_cases h5:(t.2.length:Int)<1
   ·rw[bF (by simp[h1]),bF (by simp[h3]),gT h5]
    unfold Qe;rw[if_neg (by omega)];rfl
   ·by_cases h6:(t.2.length:Int)>48
    ·rw[bF (by simp[h1]),bF (by simp[h3]),gF h5,gT h6]
     unfold Qe;rw[if_neg (by omega)];rfl
    ·rw[bF (by simp[h1]),bF (by simp[h3]),gF h5,gF h6]
     have hc:1≤wide∧wide≤64∧1≤vars∧vars≤4∧1≤t.2.length∧t.2.length≤48:=by omega
     have hne:t.2≠[]:=by intro h;rw[h]at h5;simp at h5
     rcases Q9f wide vars t (by omega) (by omega) t.2.length 0 false [] (by omega) (by simp)with⟨k1,k2⟩|⟨b,s,k1,k2⟩
     ·rw[show((0:Nat):Int)=0 from rfl]at k2
      rw[k2,J0]
      rw[Kf]at k1
      unfold Qe
      rw[if_pos hc,k1]
      rfl
     ·rw[show((0:Nat):Int)=0 from rfl]at k2
      rw[k2,J0]
      rw[Kf]at k1
      obtain⟨⟨r',e⟩,hne0⟩:=Q6k wide vars t.2 [] s k1 hne
      unfold Qe
      rw[if_pos hc,k1]
      match s,e with
      |[],e=>rfl
      |[a],e=>
       have hr:r'=[]:=by
        have:=congrArg List.length e
        simp at this
        exact this
       subst hr
       simp at e
       rw[←e]at hne0
       simp[hne0]
      |a::b::c,e=>
       simp
       omega
  ·rw[bF (by simp[h1]),bT (by simp;omega)]
   unfold Qe;rw[if_neg (by omega)];rfl
 ·rw[bT (by simp;omega)]
  unfold Qe;rw[if_neg (by omega)];rfl
theorem Qaf(wide vars kd:Int)(t:Bool×List DNode)(h0:kd≠0):F49 wide vars t kd=some (Qe wide vars t.2==kd):=by
 rw[F49E,Qez,J0]
 by_cases hz:Qe wide vars t.2=0
 ·rw[bF (by simp[hz]),hz]
  congr 1
  symm
  simp
  omega
 ·have hne:t.2≠[]:=by
   intro h
   rw[h]at hz
   exact hz (by simp[Qe])
  have hin:=Q3u hz
  rw[bT (by simp[hz]),F6eE,dn1 _ (by omega) (by omega),gT (by omega),gT (by omega),J2 _ _ _ (by omega),Q6p,J0,J0]
  rw[(Q5o _).2.1,(Q6l hz hne).2,List.getLast_eq_getElem]
def WfN(t:List DNode):Prop:=∀x∈t,U64 x.2
def WfCh(c:DChange):Prop:=WfN c.2.2
def WfCm(c:DCommand):Prop:=WfN c.1.2∧∀d∈c.2.2,WfCh d
def WfP(p:DProgram):Prop:=WfN p.2.2.1.2∧∀c∈p.2.2.2.2,WfCm c
theorem Q3n{a:Bool×List DNode}(w:WfD (.sl tyNode) a):WfN a.2:=fun x hx=>Jab (w.2.2 x hx).2
theorem Qee{p:DProgram}(w:WfD tyProgram p):WfP p:=by
 obtain⟨_,_,h1,h2⟩:=w
 refine⟨Q3n h1,fun c hc=> ?_⟩
 obtain⟨h3,h4⟩:=h2.2.2 c hc
 exact⟨Q3n h3,fun d hd=>Q3n (h4.2.2 d hd).2⟩
theorem Qha{p:DProgram}(w:WfP p):WfP (Q6 p):=by
 refine⟨w.1,fun c hc=> ?_⟩
 obtain⟨c0,h1,rfl⟩:=Kv.1 hc
 obtain⟨q1,q2⟩:=w.2 c0 h1
 refine⟨q1,fun d hd=> ?_⟩
 obtain⟨d0,h2,rfl⟩:=Kv.1 hd
 exact q2 d0 h2
def Q3o(wide vars:Int):Int→List DChange→Bool
 |_,[]=>true
 |p,c::cs=>decide (p<c.1)&&decide (c.1<vars)&&(Qe wide vars c.2.2==1)&&Q3o wide vars c.1 cs
theorem Qcg(wide vars:Int):∀(l:List DChange) (p:Int),p<vars→Q3o wide vars p l=true→p+(l.length:Int)<vars:=by
 intro l
 induction l with
 |nil=>intro p h _;simpa using h
 |cons c cs ih=>
  intro p h hc
  simp only[Q3o,K7,decide_eq_true_eq]at hc
  have:=ih c.1 hc.1.1.2 hc.2
  simp only[Kp]
  omega
def Q59(wide vars:Int)(c:DCommand):Bool:=(Qe wide vars c.1.2==2)&&Q3o wide vars (-1) c.2.2
def Q16(l:List DChange)(i:Nat):Int:=if i=0 then -1 else(l.getD (i-1) (0,(true,[]))).1
theorem Q57(l:List DChange)(i:Nat)(h:i<l.length):Q16 l (i+1)=l[i].1 :=by
 simp[Q16,h]
theorem Q8c(p:DProgram)(c:DCommand)(hl:c.2.2.length≤1048576)(hv:1≤p.2.1∧p.2.1≤4)(hw:∀d∈c.2.2,WfCh d)(d:Nat):∀(i:Nat),i+d=c.2.2.length→ -1≤Q16 c.2.2 i→
  F5v p c c.2 (c.2.2.length:Int) (i:Int)=some (bif Q3o p.1 p.2.1 (Q16 c.2.2 i) (c.2.2.drop i)then .inr ()else .inl false):=by
 induction d with
 |zero=>
  intro i hi hb0
  rw[F5vE,gF (by omega),K8 (by omega)]
  rfl
 |succ d ih=>
  intro i hi hb0
  have hlt:i<c.2.2.length:=by omega
  have hx:=hw _ (K3 hlt)
  have go:=ih (i+1) (by omega)
  rw[Q57 _ i hlt]at go
  rw[K2 hlt,F5vE,gT (by omega),gT (by omega),gT (by omega),J2 _ _ i hlt,Q1x,J0,wr (by omega),up1 i (by omega),J1,Qg4 p.1 p.2.1 _ hx,J0]
  simp only[Q3o]
  by_cases h1:0≤c.2.2[i].1 ∧c.2.2[i].1 ≤p.2.1-1
  ·rw[bF (by simp[h1]),go (by omega)]
   have h3:decide (c.2.2[i].1 <p.2.1)=true:=by simp;omega
   rw[h3]
   by_cases hi0:i=0
   ·subst hi0
    have hb:decide (Q16 c.2.2 0<c.2.2[0].1)=true:=by simp[Q16];omega
    rw[gF (by omega),hb]
    by_cases hk1:Qe p.1 p.2.1 c.2.2[0].2.2 =1
    ·rw[bF (by simp[hk1])];simp[hk1]
    ·rw[bT (by simp[hk1])];simp[beqF hk1]
   ·have hb:Q16 c.2.2 i=c.2.2[i-1].1 :=by
     simp only[Q16,if_neg hi0]
     rw[K1]
     simp[show i-1<c.2.2.length by omega]
    rw[gT (by omega),dn1 i (by omega) (by omega),gT (by omega),gT (by omega),J2 _ _ (i-1) (by omega),hb]
    by_cases h4:c.2.2[i-1].1 ≥c.2.2[i].1
    ·have:decide (c.2.2[i-1].1 <c.2.2[i].1)=false:=by simp;omega
     rw[gT h4,this];rfl
    ·have:decide (c.2.2[i-1].1 <c.2.2[i].1)=true:=by simp;omega
     rw[gF h4,this]
     by_cases hk1:Qe p.1 p.2.1 c.2.2[i].2.2 =1
     ·rw[bF (by simp[hk1])];simp[hk1]
     ·rw[bT (by simp[hk1])];simp[beqF hk1]
  ·rw[bT (by simp;omega)]
   have:(decide (Q16 c.2.2 i<c.2.2[i].1)&&decide (c.2.2[i].1 <p.2.1))=false:=by
    rw[←Bool.not_eq_true]
    simp
    omega
   rw[this];rfl
theorem Qd0(p:DProgram)(t:Bool×List DNode)(h:WfN t.2):F4a p t=some (Qe p.1 p.2.1 t.2==2):=by
 rw[F4aE,Qg4 p.1 p.2.1 t h,J0]
theorem Q3d(p:DProgram)(t:Bool×List DNode):F4i p t=some (Qe p.1 p.2.1 t.2==2):=by
 rw[F4iE,Qaf _ _ _ _ (by omega),J1]
theorem Qd1(p:DProgram)(c:DCommand)(hl:c.2.2.length≤1048576)(h:WfCm c):F2a p c=some (Q59 p.1 p.2.1 c):=by
 rw[F2aE,Qd0 p _ h.1,J0]
 unfold Q59
 by_cases h2:Qe p.1 p.2.1 c.1.2=2
 ·have hv:=Q3u (by rw[h2];omega:Qe p.1 p.2.1 c.1.2≠0)
  rw[bF (by simp[h2]),h2]
  by_cases hn:(c.2.2.length:Int)>p.2.1
  ·have:Q3o p.1 p.2.1 (-1) c.2.2=false:=by
    cases hc:Q3o p.1 p.2.1 (-1) c.2.2 with
    |false=>rfl
    |true=>
     have:=Qcg p.1 p.2.1 c.2.2 (-1) (by omega) hc
     omega
   rw[gT hn,this];rfl
  ·have:=Q8c p c hl (by omega) h.2 c.2.2.length 0 (by omega) (by simp[Q16])
   rw[show((0:Nat):Int)=0 from rfl,Kf]at this
   rw[gF hn,this,J0]
   simp only[Q16,if_true]
   cases Q3o p.1 p.2.1 (-1) c.2.2<;>rfl
 ·rw[bT (by simp[h2]),beqF h2];rfl
theorem Q88(p:DProgram)(c:DCommand)(hl:c.2.2.length≤1048576)(d:Nat):∀(i:Nat),i+d=c.2.2.length→ -1≤Q16 c.2.2 i→
  F6w p c c.2 (c.2.2.length:Int) (i:Int)=some (bif Q3o p.1 p.2.1 (Q16 c.2.2 i) (c.2.2.drop i)then .inr ()else .inl false):=by
 induction d with
 |zero=>
  intro i hi hb0
  rw[F6wE,gF (by omega),K8 (by omega)]
  rfl
 |succ d ih=>
  intro i hi hb0
  have hlt:i<c.2.2.length:=by omega
  have go:=ih (i+1) (by omega)
  rw[Q57 _ i hlt]at go
  rw[K2 hlt,F6wE,gT (by omega),gT (by omega),gT (by omega),J2 _ _ i hlt,up1 i (by omega),J1,Qaf _ _ _ _ (by omega),J0]
  simp only[Q3o]
  by_cases h1:c.2.2[i].1 <0
  ·have:decide (Q16 c.2.2 i<c.2.2[i].1)=false:=by simp;omega
   rw[gT h1,this];rfl
  ·rw[gF h1,go (by omega)]
   by_cases h2:c.2.2[i].1 ≥p.2.1
   ·have:decide (c.2.2[i].1 <p.2.1)=false:=by simp;omega
    rw[gT h2,this,K24];rfl
   ·have h3:decide (c.2.2[i].1 <p.2.1)=true:=by simp;omega
    rw[gF h2,h3]
    by_cases hi0:i=0
    ·subst hi0
     have hb:decide (Q16 c.2.2 0<c.2.2[0].1)=true:=by simp[Q16];omega
     rw[gF (by omega),hb]
     by_cases hk1:Qe p.1 p.2.1 c.2.2[0].2.2 =1
     ·rw[bF (by simp[hk1])];simp[hk1]
     ·rw[bT (by simp[hk1])];simp[beqF hk1]
    ·have hb:Q16 c.2.2 i=c.2.2[i-1].1 :=by
      simp only[Q16,if_neg hi0]
      rw[K1]
      simp[show i-1<c.2.2.length by omega]
     rw[gT (by omega),dn1 i (by omega) (by omega),gT (by omega),gT (by omega),J2 _ _ (i-1) (by omega),hb]
     by_cases h4:c.2.2[i-1].1 ≥c.2.2[i].1
     ·have:decide (c.2.2[i-1].1 <c.2.2[i].1)=false:=by simp;omega
      rw[gT h4,this];rfl
     ·have:decide (c.2.2[i-1].1 <c.2.2[i].1)=true:=by simp;omega
      rw[gF h4,this]
      by_cases hk1:Qe p.1 p.2.1 c.2.2[i].2.2 =1
      ·rw[bF (by simp[hk1])];simp[hk1]
      ·rw[bT (by simp[hk1])];simp[beqF hk1]
theorem Qcw(p:DProgram)(c:DCommand)(hl:c.2.2.length≤1048576):F2n p c=some (Q59 p.1 p.2.1 c):=by
 rw[F2nE,Q3d,J0]
 unfold Q59
 by_cases h2:Qe p.1 p.2.1 c.1.2=2
 ·rw[bF (by simp[h2]),h2]
  have:=Q88 p c hl c.2.2.length 0 (by omega) (by simp[Q16])
  rw[show((0:Nat):Int)=0 from rfl,Kf]at this
  rw[this,J0]
  simp only[Q16,if_true]
  cases Q3o p.1 p.2.1 (-1) c.2.2<;>rfl
 ·rw[bT (by simp[h2]),beqF h2];rfl
def Q8(p:DProgram):Bool:=(Qe p.1 p.2.1 p.2.2.1.2==2)&&(decide (1≤p.2.2.2.2.length∧p.2.2.2.2.length≤6)&&p.2.2.2.2.all fun c=>Q59 p.1 p.2.1 c)
theorem Q29{p:DProgram}(h:Q8 p=true):1≤p.1∧p.1≤64∧1≤p.2.1∧p.2.1≤4:=by
 simp only[Q8,K7,beq_iff_eq]at h
 have:=Q3u (t:=p.2.2.1.2) (by rw[h.1];decide)
 omega
theorem Q51(p:DProgram)(hs:Q7 p)(hw:WfP p):F2z p=some (Q8 p):=by
 obtain⟨_,s2,s3⟩:=hs
 have:=J3m p.2.2.2.2 (fun c=>Q59 p.1 p.2.1 c) (.inr ():Bool ⊕ Unit) (.inl false) (fun i=>F8m p p.2.2.2 (p.2.2.2.2.length:Int) i) (fun i h=>by
  rw[F8mE,gT (by omega),gT (by omega),gT (by omega),J2 _ _ i h,Qd1 p _ (s3 _ (K3 h)).2.1 (hw.2 _ (K3 h)),J0,up1 i (by omega),J1]
  cases Q59 p.1 p.2.1 p.2.2.2.2[i]<;>rfl) (by
  rw[F8mE,gF (by omega)])
 rw[F2zE,Qd0 p _ hw.1,J0,Q1x,J0,this]
 unfold Q8
 by_cases h2:Qe p.1 p.2.1 p.2.2.1.2=2
 ·by_cases h5:1≤p.2.2.2.2.length∧p.2.2.2.2.length≤6
  ·rw[bF (by simp[h2]),bF (by simp;omega),h2]
   simp only[h5,and_self,decide_true,J0]
   cases p.2.2.2.2.all fun c=>Q59 p.1 p.2.1 c<;>rfl
  ·rw[bF (by simp[h2]),bT (by simp;omega)]
   simp[h5]
 ·rw[bT (by simp[h2]),beqF h2];rfl
theorem Q4w(p:DProgram)(hs:Q7 p):F5t p.2.2.2 (p,())=some (p.2.2.2.2.any fun c=> !Q59 p.1 p.2.1 c):=by
 obtain⟨_,s2,s3⟩:=hs
 rw[F5tE,F38E]
 exact Jc (Ja p.2.2.2.2 (fun c=> !Q59 p.1 p.2.1 c) (fun i=>F9t p.2.2.2 (p,()) (p.2.2.2.2.length:Int) i) (fun i h=>by
  rw[F9tE,gT (by omega),gT (by omega),gT (by omega),J2 _ _ i h,F5qE,Qcw p _ (s3 _ (K3 h)).2.1,J0,J0,up1 i (by omega),J1]) (by rw[F9tE,gF (by omega)]))
theorem Q50(p:DProgram)(hs:Q7 p):F41 p=some (Q8 p):=by
 rw[F41E,Q5h,J0,Q89,J0,Q3d,J0,Q4w p hs,J0]
 unfold Q8
 by_cases h2:Qe p.1 p.2.1 p.2.2.1.2=2
 ·have hin:=Q3u (t:=p.2.2.1.2) (by rw[h2];decide)
  rw[bF (by simp;omega),bF (by simp;omega),bF (by simp[h2]),h2]
  by_cases h3:(p.2.2.2.2.length:Int)<1
  ·have h5:¬(1≤p.2.2.2.2.length∧p.2.2.2.2.length≤6):=by omega
   rw[gT h3]
   simp[h5]
  ·by_cases h4:(p.2.2.2.2.length:Int)>6
   ·have h5:¬(1≤p.2.2.2.2.length∧p.2.2.2.2.length≤6):=by omega
    rw[gF h3,gT h4]
    simp[h5]
   ·have h5:1≤p.2.2.2.2.length∧p.2.2.2.2.length≤6:=by omega
    rw[gF h3,gF h4]
    simp[h5,List.not_any_eq_all_not]
 ·rw[beqF h2]
  by_cases a1:1≤p.1∧p.1≤64
  ·by_cases a2:1≤p.2.1∧p.2.1≤4
   ·rw[bF (by simp;omega),bF (by simp;omega),bT (by simp)];rfl
   ·rw[bF (by simp;omega),bT (by simp;omega)];rfl
  ·rw[bT (by simp;omega)];rfl
theorem Qej(wide vars:Int):∀(l:List DChange) (p:Int),Q3o wide vars p l=true→∀d∈l,p<d.1∧d.1<vars∧Qe wide vars d.2.2=1:=by
 intro l
 induction l with
 |nil=>intro p _ d hd;simp at hd
 |cons c cs ih=>
  intro p h d hd
  simp only[Q3o,K7,decide_eq_true_eq,beq_iff_eq]at h
  rcases Kd.1 hd with rfl|hd
  ·exact⟨h.1.1.1,h.1.1.2,h.1.2⟩
  ·have:=ih c.1 h.2 d hd
   exact⟨by omega,this.2⟩
theorem Q6g{p:DProgram}(h:Q8 p=true):∀c∈p.2.2.2.2,Qe p.1 p.2.1 c.1.2=2∧∀d∈c.2.2,0≤d.1∧d.1<p.2.1∧Qe p.1 p.2.1 d.2.2=1:=by
 intro c hc
 simp only[Q8,K7]at h
 have:=(K11.1 h.2.2) c hc
 simp only[Q59,K7,beq_iff_eq]at this
 refine⟨this.1,fun d hd=> ?_⟩
 have:=Qej _ _ _ _ this.2 d hd
 exact⟨by omega,this.2⟩
theorem Qf2{wide vars:Int}{t:List DNode}(h:(Qe wide vars t==2)=true):Qe wide vars t≠0:=by
 rw[beq_iff_eq]at h
 omega
def Q1f(p:DProgram):Bool:=Q8 p&&decide (p.1*p.2.1≤5)
theorem Qde{a b:Int}(ha:1≤a∧a≤64)(hb:1≤b∧b≤4):1≤a*b∧a*b≤256:=by
 have h1:1*1≤a*b:=Int.mul_le_mul ha.1 hb.1 (by omega) (by omega)
 have h2:a*b≤64*4:=Int.mul_le_mul ha.2 hb.2 (by omega) (by omega)
 omega
theorem Qau(p:DProgram)(hs:Q7 p)(hw:WfP p):F4q p=some (Q1f p):=by
 rw[F4qE,Q51 p hs hw,J0]
 unfold Q1f
 cases h:Q8 p with
 |false=>rfl
 |true=>
  obtain⟨a1,a2,a3,a4⟩:=Q29 h
  have:=Qde ⟨a1,a2⟩ ⟨a3,a4⟩
  rw[wr (by omega)]
  rfl
theorem Q6s(p:DProgram)(hs:Q7 p):F4s p=some (Q1f p):=by
 rw[F4sE,Q50 p hs,J0]
 unfold Q1f
 cases h:Q8 p with
 |false=>rfl
 |true=>
  obtain⟨a1,a2,a3,a4⟩:=Q29 h
  have:=Qde ⟨a1,a2⟩ ⟨a3,a4⟩
  rw[wr (by omega)]
  rfl
theorem Q6j{p:DProgram}(h:Q1f p=true):Q8 p=true∧1≤p.1∧p.1≤5∧1≤p.2.1∧p.2.1≤4∧p.1*p.2.1≤5∧1≤p.1*p.2.1:=by
 simp only[Q1f,K7,decide_eq_true_eq]at h
 obtain⟨a1,a2,a3,a4⟩:=Q29 h.1
 have h1:=Qde ⟨a1,a2⟩ ⟨a3,a4⟩
 have h2:p.1*1≤p.1*p.2.1:=Int.mul_le_mul_of_nonneg_left a3 (by omega)
 exact⟨h.1,a1,by omega,a3,a4,h.2,h1.1⟩
theorem Q2h(k:IntKind)(x:Int)(n:Nat)(h:n≤k.bits):bShr k x (n:Int)=x / 2^n:=by
 unfold bShr
 rw[show min ((n:Int)).toNat k.bits=n by simp only[K5];omega,Int.fdiv_eq_ediv_of_nonneg _ (Int.le_of_lt (Int.pow_pos (by decide)))]
theorem Qa8(a:Nat)(h:a<2^64):bXor .u64 18446744073709551615 (a:Int)=((18446744073709551615-a:Nat):Int):=by
 have e:(BitVec.ofInt 64 18446744073709551615^^^BitVec.ofInt 64 (a:Int)).toNat =18446744073709551615-a:=by
  rw[show BitVec.ofInt 64 18446744073709551615=BitVec.allOnes 64 by decide,BitVec.allOnes_xor,BitVec.toNat_not,BitVec.ofInt_natCast,BitVec.toNat_ofNat,K29 h]
 show IntKind.u64.wrap (((BitVec.ofInt 64 18446744073709551615^^^BitVec.ofInt 64 (a:Int)).toNat :Nat):Int)=_
 rw[e]
 exact wru ⟨by omega,by omega⟩
theorem Q4a{wide a:Int}(hw:1≤wide∧wide≤64)(ha:U64 a):F12 wide a=some (a%(top wide+1)):=by
 obtain⟨n,rfl⟩:=Ke (show 0≤wide by omega)
 obtain⟨m,rfl⟩:=Ke ha.1
 have hm:m<2^64:=by have:=ha.2;simp;omega
 have e:((2:Int)^n)=((2^n:Nat):Int):=by simp
 rw[Qcl n m (by omega) hm,show min n 64=n by omega]
 simp only[top,K5,e]
 rw[show((2^n:Nat):Int)-1+1=((2^n:Nat):Int) by omega]
 rfl
theorem Q1h{wide a:Int}(hw:1≤wide∧wide≤64)(ha:U64 a):bAnd .u64 a (top wide)=a%(top wide+1):=by
 obtain⟨n,rfl⟩:=Ke (show 0≤wide by omega)
 obtain⟨m,rfl⟩:=Ke ha.1
 have e:((2:Int)^n)=((2^n:Nat):Int):=by simp
 have hm:m<2^64:=by have:=ha.2;simp;omega
 have hp:=J4f (n:=n) (by omega)
 have h0:0<(2:Nat)^n:=Nat.two_pow_pos _
 have e2:top ((n:Nat):Int)=((2^n-1:Nat):Int):=by
  simp only[top,K5,e]
  omega
 have e3:top ((n:Nat):Int)+1=((2^n:Nat):Int):=by rw[e2];omega
 rw[e3,e2,J8d m (2^n-1) hm (by simp;omega),Nat.and_two_pow_sub_one_eq_mod]
 rfl
theorem Q97{wide a:Int}(hw:1≤wide∧wide≤64)(h0:0≤a)(h1:a≤top wide):U64 (bXor .u64 18446744073709551615 a)∧bXor .u64 18446744073709551615 a%(top wide+1)=top wide-a:=by
 obtain⟨n,rfl⟩:=Ke (show 0≤wide by omega)
 obtain⟨m,rfl⟩:=Ke h0
 have e:((2:Int)^n)=((2^n:Nat):Int):=by simp
 simp only[top,K5,e]at h1⊢
 have h2:=J4f (n:=n) (by omega)
 have hm:m<2^64:=by simp;omega
 rw[Qa8 m hm]
 refine⟨⟨by omega,by omega⟩,?_⟩
 have hp:(2:Nat)^n*2^(64-n)=18446744073709551616:=by rw[←Nat.pow_add,show n+(64-n)=64 by omega]
 have hq:0<(2:Nat)^(64-n):=Nat.two_pow_pos _
 have h3:18446744073709551615-m=(2^n-1-m)+2^n*(2^(64-n)-1):=by
  rw[Nat.mul_sub,hp,Nat.mul_one]
  omega
 rw[h3,show((2^n:Nat):Int)-1+1=((2^n:Nat):Int) by omega,←Int.natCast_emod,Nat.add_mul_mod_self_left,K29 (by omega)]
 omega
theorem Qck{wide:Int}(hw:1≤wide∧wide≤64):F12 wide 18446744073709551615=some (top wide):=by
 have ht:=Q4s hw
 have h:=(Q97 hw (Int.le_refl 0) (by omega)).2
 rw[show(0:Int)=((0:Nat):Int)from rfl,Qa8 0 (by decide)]at h
 rw[Q4a hw ⟨by omega,by omega⟩]
 congr 1
 simpa using h
def W5(wide a:Int):Prop:=0≤a∧a≤top wide
theorem Q96{wide a b:Int}(hw:1≤wide∧wide≤64)(ha:W5 wide a)(hb:W5 wide b):
  W5 wide (bAnd .u64 a b)∧W5 wide (bOr .u64 a b)∧W5 wide (bXor .u64 a b):=by
 obtain⟨n,rfl⟩:=Ke (show 0≤wide by omega)
 obtain⟨ha0,ha1⟩:=ha
 obtain⟨hb0,hb1⟩:=hb
 obtain⟨x,rfl⟩:=Ke ha0
 obtain⟨y,rfl⟩:=Ke hb0
 have e:((2:Int)^n)=((2^n:Nat):Int):=by simp
 have hp:=J4f (n:=n) (by omega)
 simp only[top,K5,e]at ha1 hb1
 have h0:0<(2:Nat)^n:=Nat.two_pow_pos _
 have hx:x<2^n:=by omega
 have hy:y<2^n:=by omega
 have h64:(2:Nat)^n≤2^64:=Nat.pow_le_pow_right (by decide) (by omega)
 have f1:=Nat.and_lt_two_pow x hy
 have f2:=Nat.or_lt_two_pow hx hy
 have f3:=Nat.xor_lt_two_pow hx hy
 rw[J8d x y (K15 hx h64) (K15 hy h64),J92 x y (K15 hx h64) (K15 hy h64),Jg9 x y (K15 hx h64) (K15 hy h64)]
 simp only[W5,top,K5,e]
 omega
theorem Q4h{n:Nat}:top (n:Int)+1=((2^n:Nat):Int):=by
 have e:((2:Int)^n)=((2^n:Nat):Int):=by simp
 simp only[top,K5,e]
 omega
theorem W5.u64{wide a:Int}(hw:1≤wide∧wide≤64)(h:W5 wide a):U64 a:=⟨h.1,by have:=h.2;have:=Q4s hw;omega⟩
theorem Q18{wide a:Int}(hw:1≤wide∧wide≤64)(h:W5 wide a):bAnd .u64 a (top wide)=a:=by
 rw[Q1h hw (h.u64 hw),Int.emod_eq_of_lt h.1 (by have:=h.2;omega)]
theorem Q44{wide a:Int}(hw:1≤wide∧wide≤64)(h:W5 wide a):Q2z wide a=true:=by
 rw[Q1c]
 exact⟨hw.1,hw.2,h.2⟩
theorem Q3w{wide q:Int}(hw:1≤wide∧wide≤64):W5 wide (q%(top wide+1)):=by
 have ht:=Q4s hw
 exact⟨Int.emod_nonneg _ (by omega),by have:=Int.emod_lt_of_pos q (show 0<top wide+1 by omega);omega⟩
theorem Qa7(n:Int):U64 (IntKind.u64.wrap n):=by
 rw[J51]
 exact⟨Int.emod_nonneg _ (by decide),Int.emod_lt_of_pos _ (by decide)⟩
theorem Q7e(wide:Int)(n:Nat):∀(x:Int),n<1000→F60 wide x (n:Int) false=some (x / 2^n):=by
 induction n with
 |zero=>
  intro x _
  rw[F60E,gF (by omega)]
  simp
 |succ n ih=>
  intro x h
  rw[F60E,gT (by omega),cond_false,wru (by omega),show((n+1:Nat):Int)-1=(n:Int) by omega,show(1:Int)=((1:Nat):Int)from rfl,Q2h .u64 x 1 (by decide),ih _ (by omega),J0]
  congr 1
  rw[Int.ediv_ediv_of_nonneg (by decide),Int.pow_succ,Int.mul_comm]
  rfl
theorem Q8a(wide:Int)(hw:1≤wide∧wide≤63)(n:Nat):∀(x:Int),n<1000→0≤x→x≤top wide→F60 wide x (n:Int) true=some (x*2^n%(top wide+1)):=by
 obtain⟨w,rfl⟩:=Ke (show 0≤wide by omega)
 have hM:=Q4h (n:=w)
 have hlt:(2:Nat)^w≤2^63:=Nat.pow_le_pow_right (by decide) (by omega)
 have hpos:0<(2:Nat)^w:=Nat.two_pow_pos _
 simp at hlt
 induction n with
 |zero=>
  intro x _ h0 h1
  rw[F60E,gF (by omega),show x*2^0=x by simp,Int.emod_eq_of_lt h0 (by omega)]
 |succ n ih=>
  intro x h h0 h1
  have e:bShl .u64 x 1=x*2:=by
   unfold bShl
   rw[show min (Int.toNat 1) IntKind.u64.bits=1 by decide,wru (by omega)]
   omega
  rw[F60E,gT (by omega),cond_true,e,Q4a (by omega) ⟨by omega,by omega⟩,J0]
  have hm:=Int.emod_nonneg (x*2) (show top (w:Int)+1≠0 by omega)
  have hm2:=Int.emod_lt_of_pos (x*2) (show 0<top (w:Int)+1 by omega)
  rw[wru (by omega),show((n+1:Nat):Int)-1=(n:Int) by omega,ih _ (by omega) hm (by omega),J0]
  congr 1
  rw[Int.mul_emod,Int.emod_emod_of_dvd _ (Int.dvd_refl _),←Int.mul_emod,Int.pow_succ,Int.mul_assoc,Int.mul_comm 2]
theorem Q6r(wide:Int)(hw:1≤wide∧wide≤63)(a b:Int)(ha:W5 wide a)(hb:U64 b)(left:Bool):∃r,W5 wide r∧Fx wide a b left=some r∧∃q,F3w wide a b left=some q∧U64 q∧bAnd .u64 q (top wide)=r:=by
 obtain⟨a0,a1⟩:=ha
 obtain⟨b0,b1⟩:=hb
 have ht:=Q4s (wide:=wide) (by omega)
 have hz:bAnd .u64 0 (top wide)=0:=by rw[Q1h (by omega) ⟨by omega,by omega⟩];simp
 rw[FxE,F3wE,wru (by omega)]
 by_cases hge:b≥wide
 ·exact⟨0,⟨by omega,by omega⟩,by rw[gT hge],0,by rw[gT hge],⟨by omega,by omega⟩,hz⟩
 ·rw[gF hge,gF hge,gF (by omega),gF (by omega),J1]
  obtain⟨n,rfl⟩:=Ke b0
  obtain⟨w,rfl⟩:=Ke (show 0≤wide by omega)
  have hM:=Q4h (n:=w)
  have hpos:0<(2:Nat)^w:=Nat.two_pow_pos _
  have hn64:min ((n:Int)).toNat (IntKind.u64.bits)=n:=by simp only[K5,IntKind.bits];omega
  cases left with
  |true=>
   have hm:=Int.emod_nonneg (a*2^n) (show top (w:Int)+1≠0 by omega)
   have hm2:=Int.emod_lt_of_pos (a*2^n) (show 0<top (w:Int)+1 by omega)
   have hq:U64 (bShl .u64 a (n:Int)):=by
    unfold bShl
    exact Qa7 _
   have e1:=Q1h (wide:=(w:Int)) (by omega) hq
   have e2:bShl .u64 a (n:Int)%(top (w:Int)+1)=a*2^n%(top (w:Int)+1):=by
    unfold bShl
    rw[hn64,J51,hM]
    have:(18446744073709551616:Int)=((2^w:Nat):Int)*((2^(64-w):Nat):Int):=by
     rw[←Int.natCast_mul,←Nat.pow_add,show w+(64-w)=64 by omega]
     decide
    rw[this,Int.emod_emod_of_dvd _ (Int.dvd_mul_right _ _)]
   refine⟨a*2^n%(top (w:Int)+1),⟨hm,by omega⟩,Q8a (w:Int) (by omega) n a (by omega) a0 a1,bAnd .u64 (bShl .u64 a (n:Int)) (top (w:Int)),?_,?_,?_⟩
   ·rw[cond_true,Q31 (w:Int) (by omega),J0]
   ·rw[e1,e2]
    exact⟨hm,by omega⟩
   ·rw[e1,e2,Q1h (by omega) ⟨hm,by omega⟩,Int.emod_emod_of_dvd _ (Int.dvd_refl _)]
  |false=>
   have hp:(0:Int)<2^n:=Int.pow_pos (by decide)
   have h1:0≤a / 2^n:=Int.ediv_nonneg a0 (by omega)
   have h2:a / 2^n≤a:=Int.ediv_le_self _ a0
   refine⟨a / 2^n,⟨h1,by omega⟩,Q7e (w:Int) n a (by omega),a / 2^n,?_,⟨h1,by omega⟩,?_⟩
   ·rw[cond_false,Q2h .u64 a n (by simp only[IntKind.bits];omega)]
   ·rw[Q1h (by omega) ⟨h1,by omega⟩,Int.emod_eq_of_lt h1 (by omega)]
theorem Q60:top 1=1:=by decide
theorem Qdj(a b:Int)(ha:U64 a)(hb:U64 b):bOr .u64 a b=bOr .u64 b a:=by
 obtain⟨x,rfl⟩:=Ke ha.1
 obtain⟨y,rfl⟩:=Ke hb.1
 have hx:x<2^64:=by have:=ha.2;simp;omega
 have hy:y<2^64:=by have:=hb.2;simp;omega
 rw[J92 x y hx hy,J92 y x hy hx,Nat.or_comm]
theorem Qg8(n:Int):IntKind.i64.wrap n=(n+9223372036854775808)%18446744073709551616-9223372036854775808:=by
 simp[IntKind.wrap,IntKind.bits,IntKind.signed]
 split<;>omega
def sgn(wide a:Int):Int:=if 2*a<top wide+1 then a else a-(top wide+1)
theorem Qai(wide a:Int)(hw:1≤wide∧wide≤62)(ha:W5 wide a):F3v wide a=some (sgn wide a):=by
 obtain⟨a0,a1⟩:=ha
 obtain⟨w,rfl⟩:=Ke (show 0≤wide by omega)
 obtain⟨v,rfl⟩:∃v,w=v+1:=⟨w-1,by omega⟩
 have hM:=Q4h (n:=v+1)
 have hlt:(2:Nat)^(v+1)≤2^62:=Nat.pow_le_pow_right (by decide) (by omega)
 have hpos:0<(2:Nat)^v:=Nat.two_pow_pos _
 have h2:(2:Nat)^(v+1)=2*2^v:=by rw[Nat.pow_succ];omega
 simp at hlt
 have e0:IntKind.u64.wrap (IntKind.i64.wrap (((v+1:Nat):Int)-1))=(v:Int):=by
  rw[wr (by omega),show((v+1:Nat):Int)-1=(v:Int) by omega,wru (by omega)]
 have e1:bShr .u64 a (v:Int)=a / 2^v:=Q2h .u64 a v (by simp only[IntKind.bits];omega)
 have hp:((2:Int)^v)=((2^v:Nat):Int):=by simp
 have hd0:0≤a / 2^v:=Int.ediv_nonneg a0 (by omega)
 have hd1:a / 2^v≤a:=Int.ediv_le_self _ a0
 have e2:bAnd .u64 (a / 2^v) 1=a / 2^v%2:=by
  have:=Q1h (wide:=1) (by omega) (a:=a / 2^v) ⟨hd0,by omega⟩
  rw[Q60]at this
  exact this
 rw[F3vE,e0,gF (by omega),e1,e2,Qck (by omega),J0]
 have hlt2:a / 2^v<2:=Int.ediv_lt_of_lt_mul (by omega) (by omega)
 simp only[sgn]
 by_cases hb:2*a<top ((v+1:Nat):Int)+1
 ·have h3:a / 2^v=0:=Int.ediv_eq_zero_of_lt a0 (by omega)
  rw[h3,bF (by decide),if_pos hb,wr (by omega)]
 ·have h3:a / 2^v=1:=by
   have:1≤a / 2^v:=(Int.le_ediv_iff_mul_le (by omega)).2 (by omega)
   omega
  rw[h3,bT (by decide),if_neg hb]
  have hx:=Qa8 (2^(v+1)-1) (by simp;omega)
  have ht:top ((v+1:Nat):Int)=((2^(v+1)-1:Nat):Int):=by omega
  rw[ht,hx]
  have hmod:((18446744073709551615-(2^(v+1)-1):Nat):Int)%2^(v+1)=0:=by
   have e5:18446744073709551615-(2^(v+1)-1)=2^(v+1)*(2^(64-(v+1))-1):=by
    rw[Nat.mul_sub,←Nat.pow_add,show v+1+(64-(v+1))=64 by omega]
    omega
   rw[e5,Int.natCast_mul]
   have:((2:Int)^(v+1))=((2^(v+1):Nat):Int):=by simp
   rw[this,Int.mul_emod_right]
  have hj:bOr .u64 ((18446744073709551615-(2^(v+1)-1):Nat):Int) a=((18446744073709551615-(2^(v+1)-1):Nat):Int)+a:=
   bits_join .u64 64 (by decide) (fun n h0 h1=>wru ⟨h0,by simpa using h1⟩) (v+1) ((18446744073709551615-(2^(v+1)-1):Nat):Int) a (by omega) hmod (by simp;omega) a0 (by
    have:((2:Int)^(v+1))=((2^(v+1):Nat):Int):=by simp
    omega) (by simp;omega)
  rw[Qdj a _ ⟨a0,by omega⟩ ⟨by omega,by omega⟩,hj]
  congr 1
  rw[Qg8]
  omega
theorem signed(wide a:Int)(hw:1≤wide∧wide≤62)(ha:W5 wide a):F11 wide a=some (sgn wide a):=by
 obtain⟨a0,a1⟩:=ha
 obtain⟨w,rfl⟩:=Ke (show 0≤wide by omega)
 have hM:=Q4h (n:=w)
 have hpos:0<(2:Nat)^w:=Nat.two_pow_pos _
 have hq:0<(2:Nat)^(64-w):=Nat.two_pow_pos _
 have hmul:(2:Nat)^w*2^(64-w)=18446744073709551616:=by rw[←Nat.pow_add,show w+(64-w)=64 by omega]
 have e0:IntKind.i64.wrap (64-(w:Int))=((64-w:Nat):Int):=by rw[wr (by omega)];omega
 rw[F11E,e0,gF (by omega),gF (by omega),Q2h .i64 _ (64-w) (by simp only[IntKind.bits];omega)]
 have hn64:min (((64-w:Nat):Int)).toNat (IntKind.u64.bits)=64-w:=by simp only[K5,IntKind.bits];omega
 have hp:((2:Int)^(64-w))=((2^(64-w):Nat):Int):=by simp
 unfold bShl
 rw[hn64,hp]
 generalize hQ:2^(64-w)=Q at *
 generalize hW:2^w=V at *
 obtain⟨x,rfl⟩:=Ke a0
 have hx:x<V:=by omega
 have hxm:x*Q<V*Q:=(Nat.mul_lt_mul_right hq).2 hx
 have e1:IntKind.u64.wrap ((x:Int)*(Q:Int))=((x*Q:Nat):Int):=by rw[←Int.natCast_mul,wru (by omega)]
 rw[e1]
 congr 1
 unfold sgn
 by_cases hb:2*(x:Int)<top (w:Int)+1
 ·rw[if_pos hb]
  have h3:2*(x*Q)<V*Q:=by
   have:(2*x)*Q<V*Q:=(Nat.mul_lt_mul_right hq).2 (by omega)
   rwa[Nat.mul_assoc]at this
  rw[wr (by omega),Int.natCast_mul,Int.mul_ediv_cancel _ (by omega)]
 ·rw[if_neg hb]
  have h3:V*Q≤2*(x*Q):=by
   have:V*Q≤(2*x)*Q:=Ku _ (by omega)
   rwa[Nat.mul_assoc]at this
  have e4:IntKind.i64.wrap ((x*Q:Nat):Int)=((x:Int)-(V:Int))*(Q:Int):=by
   have e5:((x:Int)-(V:Int))*(Q:Int)=((x*Q:Nat):Int)-18446744073709551616:=by
    rw[Int.sub_mul,←Int.natCast_mul,←Int.natCast_mul,hmul]
    rfl
   rw[e5,Qg8]
   omega
  rw[e4,Int.mul_ediv_cancel _ (by omega),hM]
theorem Q3r{wide a b:Int}(hw:1≤wide∧wide≤64)(ha:W5 wide a)(hb:W5 wide b)(h:b≠0):W5 wide (a / b)∧W5 wide (a%b):=by
 obtain⟨a0,a1⟩:=ha
 obtain⟨b0,b1⟩:=hb
 have h1:=Int.ediv_le_self b a0
 have h2:=Int.emod_lt_of_pos a (show 0<b by omega)
 exact⟨⟨Int.ediv_nonneg a0 b0,by omega⟩,⟨Int.emod_nonneg a h,by omega⟩⟩
theorem Qgi{wide a b:Int}(hw:1≤wide∧wide≤64)(ha:W5 wide a)(hb:W5 wide b):
  F6r wide a b=some (if b=0 then top wide else a / b,if b=0 then a else a%b,true)∧F4u wide a b=some (if b=0 then top wide else a / b,if b=0 then a else a%b,true):=by
 have ua:=ha.u64 hw
 have ub:=hb.u64 hw
 constructor
 ·rw[F6rE,F6pE,Q2m wide a ua,Q2m wide b ub,Q44 hw ha,Q44 hw hb]
  simp only[J0,cond_true]
  rw[bF (by rfl)]
  by_cases h:b=0
  ·rw[bT (by simpa using h),Qck hw,if_pos h,if_pos h]
   rfl
  ·have hd:=Q3r hw ha hb h
   have hu:=hd.1.u64 hw
   have hf:(b==0)=false:=beqF h
   rw[hf,cond_false,cond_false,cond_false,if_neg h,if_neg h,Int.tdiv_eq_ediv_of_nonneg ha.1,Int.tmod_eq_emod_of_nonneg ha.1,wru hu]
 ·rw[F4uE,F6qE,Q2j,Q2j,Q44 hw ha,Q44 hw hb]
  simp only[J0,cond_true]
  rw[bF (by rfl)]
  by_cases h:b=0
  ·rw[bT (by simpa using h),Q31 wide hw,if_pos h,if_pos h]
   rfl
  ·have hd:=Q3r hw ha hb h
   have hu:=hd.1.u64 hw
   have hf:(b==0)=false:=beqF h
   have hb0:=hb.1
   rw[F5eE,hf,cond_false,cond_false,gF (by omega),bT (by rfl),cond_false,cond_false,J0,if_neg h,if_neg h,Int.tdiv_eq_ediv_of_nonneg ha.1,Int.tmod_eq_emod_of_nonneg ha.1,wru hu]
theorem Qby(c:Bool):F1t c=some (if c=true then 1 else 0)∧Fl c=some (if c=true then 1 else 0):=by
 rw[F1tE,FlE]
 cases c<;>exact⟨rfl,rfl⟩
theorem Qfk(wide op a b:Int)(hw:1≤wide∧wide≤62)(ha:W5 wide a)(hb:W5 wide b)(ho:(3≤op∧op≤12)∨(14≤op∧op≤18)):
  ∃r,W5 wide r∧((op=14∨op=15∨op=16∨((op=17∨op=18)∧a≤1∧b≤1))→r≤1)∧F5m wide op a b=some r∧F54 wide op a b=some r:=by
 have hw':1≤wide∧wide≤64:=by omega
 have ht:=Q4s hw'
 have hm:=Q31 wide hw'
 obtain⟨hb1,hb2,hb3⟩:=Q96 hw' ha hb
 obtain⟨hD,hI⟩:=Qgi hw' ha hb
 have hbool:∀c:Bool,W5 wide (if c=true then 1 else 0)∧(if c=true then(1:Int)else 0)≤1:=by
  intro c
  cases c
  ·exact⟨⟨by simp,by simp;omega⟩,by simp⟩
  ·exact⟨⟨by simp,by simp;omega⟩,by simp⟩
 rw[F5mE,F54E,hD,J0]
 rcases(show op=3∨op=4∨op=5∨op=6∨op=7∨op=8∨op=9∨op=10∨op=11∨op=12∨op=14∨op=15∨op=16∨op=17∨op=18 by omega)with rfl|rfl|rfl|rfl|rfl|rfl|rfl|rfl|rfl|rfl|rfl|rfl|rfl|rfl|rfl
 all_goals simp only[show∀x y:Int,(x==y)=decide (x=y)from fun x y=>rfl,decide_true,cond_true,cond_false,Int.reduceEq,decide_false,hm,J0,J1]
 ·exact⟨_,Q3w hw',by simp,Q4a hw' (Qa7 _),by rw[Q1h hw' (Qa7 _)]⟩
 ·exact⟨_,Q3w hw',by simp,Q4a hw' (Qa7 _),by rw[Q1h hw' (Qa7 _)]⟩
 ·exact⟨_,Q3w hw',by simp,Q4a hw' (Qa7 _),by rw[Q1h hw' (Qa7 _)]⟩
 ·have hr:W5 wide (if b=0 then top wide else a / b):=by
   by_cases h:b=0
   ·rw[if_pos h]
    exact⟨by omega,Int.le_refl _⟩
   ·rw[if_neg h]
    exact(Q3r hw' ha hb h).1
  exact⟨_,hr,by simp,rfl,by rw[hI,J0];dsimp only;rw[Q18 hw' hr]⟩
 ·have hr:W5 wide (if b=0 then a else a%b):=by
   by_cases h:b=0
   ·rw[if_pos h]
    exact ha
   ·rw[if_neg h]
    exact(Q3r hw' ha hb h).2
  exact⟨_,hr,by simp,rfl,by rw[hI,J0];dsimp only;rw[Q18 hw' hr]⟩
 ·exact⟨_,hb1,by simp,rfl,by rw[Q18 hw' hb1]⟩
 ·exact⟨_,hb2,by simp,rfl,by rw[Q18 hw' hb2]⟩
 ·exact⟨_,hb3,by simp,rfl,by rw[Q18 hw' hb3]⟩
 ·obtain⟨r,h1,h2,q,h3,h4,h5⟩:=Q6r wide (by omega) a b ha (hb.u64 hw') true
  exact⟨r,h1,by simp,h2,by rw[h3,J0,h5]⟩
 ·obtain⟨r,h1,h2,q,h3,h4,h5⟩:=Q6r wide (by omega) a b ha (hb.u64 hw') false
  exact⟨r,h1,by simp,h2,by rw[h3,J0,h5]⟩
 ·have hc:=hbool (decide (a=b))
  exact⟨_,hc.1,fun _=>hc.2,(Qby _).1,by rw[(Qby _).2,J0,Q18 hw' hc.1]⟩
 ·have hc:=hbool (decide (a<b))
  exact⟨_,hc.1,fun _=>hc.2,(Qby _).1,by rw[(Qby _).2,J0,Q18 hw' hc.1]⟩
 ·have hc:=hbool (decide (sgn wide a<sgn wide b))
  rw[Qai wide a hw ha,Qai wide b hw hb,signed wide a hw ha,signed wide b hw hb]
  simp only[J0]
  exact⟨_,hc.1,fun _=>hc.2,(Qby _).1,by rw[(Qby _).2,J0,Q18 hw' hc.1]⟩
 ·refine⟨_,hb1,fun h=> ?_,rfl,by rw[Q18 hw' hb1]⟩
  have h1:W5 1 a∧W5 1 b:=by
   simp at h
   have ha0:=ha.1
   have hb0:=hb.1
   have e:=Q60
   unfold W5
   omega
  have:=(Q96 (wide:=1) (by omega) h1.1 h1.2).1.2
  rw[Q60]at this
  exact this
 ·refine⟨_,hb2,fun h=> ?_,rfl,by rw[Q18 hw' hb2]⟩
  have h1:W5 1 a∧W5 1 b:=by
   simp at h
   have ha0:=ha.1
   have hb0:=hb.1
   have e:=Q60
   unfold W5
   omega
  have:=(Q96 (wide:=1) (by omega) h1.1 h1.2).2.1.2
  rw[Q60]at this
  exact this
def Q8s{V:Type}(f:DNode→List V→V)(st:List V)(x:DNode):List V:=
 st.take (st.length-(need x.1).1.toNat)++[f x (st.drop (st.length-(need x.1).1.toNat))]
def Q9{V:Type}(f:DNode→List V→V)(t:List DNode)(i:Nat):List V:=(t.take i).foldl (Q8s f) []
theorem Q1q{V:Type}(f:DNode→List V→V)(t:List DNode)(i:Nat)(h:i<t.length):Q9 f t (i+1)=Q8s f (Q9 f t i) t[i]:=by
 unfold Q9
 rw[K1b h,List.foldl_append]
 rfl
def Qfz{V:Type}(f:DNode→List V→V)(t:List DNode):Prop:=∀i (h:i<t.length),(need t[i].1).1.toNat ≤(Q9 f t i).length
theorem Qhq{V:Type}(f:DNode→List V→V)(t:Bool×List DNode)(ht:t.2.length≤48)(he:Qfz f t.2):∀(n i:Nat),i≤n→i<t.2.length→
  ∃j:Nat,j≤i∧F2c t (i:Int)=some (j:Int)∧∃v,Q9 f t.2 (i+1)=Q9 f t.2 j++[v]:=by
 intro n
 induction n with
 |zero=>
  intro i hi h
  obtain rfl:i=0:=by omega
  obtain⟨m,hm,hm2⟩:=Q3x t.2[0].1
  have hen:=he 0 h
  have hz:Q9 f t.2 0=[]:=rfl
  rw[hm,hz]at hen
  simp at hen
  subst hen
  refine⟨0,by omega,?_,?_⟩
  ·rw[F2cE,gT (by omega),gT (by omega),show t.2.getD (Int.toNat ((0:Nat):Int)) (0,0)=t.2[0]from J2 t.2 _ 0 h,Qaj,J0,hm,F7lE,gF (by omega)]
   rfl
  ·rw[Q1q f t.2 0 h,hz]
   simp only[Q8s,List.take_nil]
   exact⟨_,rfl⟩
 |succ n ih=>
  intro i hi h
  obtain⟨m,hm,hm2⟩:=Q3x t.2[i].1
  have hen:=he i h
  simp only[hm,K5]at hen
  have e0:F2c t (i:Int)=F7l t (m:Int) (i:Int):=by
   rw[F2cE,gT (by omega),gT (by omega),J2 t.2 _ i h,Qaj,J0,hm,J1]
  have es:Q9 f t.2 (i+1)=(Q9 f t.2 i).take ((Q9 f t.2 i).length -m)++[f t.2[i] ((Q9 f t.2 i).drop ((Q9 f t.2 i).length -m))]:=by
   rw[Q1q f t.2 i h]
   simp only[Q8s,hm,K5]
  rcases(show m=0∨m=1∨m=2 by omega)with rfl|rfl|rfl
  ·refine⟨i,by omega,?_,f t.2[i] ((Q9 f t.2 i).drop ((Q9 f t.2 i).length -0)),?_⟩
   ·rw[e0,F7lE,gF (by omega)]
   ·rw[es,Nat.sub_zero,List.take_length]
  ·have hi0:0<i:=by
    rcases Nat.eq_zero_or_pos i with rfl|h0
    ·have hz:Q9 f t.2 0=[]:=rfl
     rw[hz]at hen
     simp at hen
    ·exact h0
   obtain⟨j,hj,ej,v,ev⟩:=ih (i-1) (by omega) (by omega)
   rw[show i-1+1=i by omega]at ev
   refine⟨j,by omega,?_,?_⟩
   ·rw[e0,F7lE,gT (by omega),dn1 i (by omega) hi0,ej,J0,F7lE,gF (by rw[wr (by omega)];omega)]
    rfl
   ·rw[es,ev]
    simp only[Kg,K1g,Nat.add_sub_cancel]
    rw[List.take_left' rfl]
    exact⟨_,rfl⟩
  ·have hi0:0<i:=by
    rcases Nat.eq_zero_or_pos i with rfl|h0
    ·have hz:Q9 f t.2 0=[]:=rfl
     rw[hz]at hen
     simp at hen
    ·exact h0
   obtain⟨j,hj,ej,v,ev⟩:=ih (i-1) (by omega) (by omega)
   rw[show i-1+1=i by omega]at ev
   have hj0:0<j:=by
    rcases Nat.eq_zero_or_pos j with rfl|h0
    ·rw[ev]at hen
     have hz:Q9 f t.2 0=[]:=rfl
     rw[hz]at hen
     simp at hen
    ·exact h0
   obtain⟨j2,hj2,ej2,v2,ev2⟩:=ih (j-1) (by omega) (by omega)
   rw[show j-1+1=j by omega]at ev2
   refine⟨j2,by omega,?_,?_⟩
   ·rw[e0,F7lE,gT (by omega),dn1 i (by omega) hi0,ej,J0,F7lE,gT (by rw[wr (by omega)];omega),dn1 j (by omega) hj0,ej2,J0,F7lE,gF (by rw[wr (by rw[wr (by omega)];omega),wr (by omega)];omega)]
    rfl
   ·rw[es,ev,ev2]
    simp only[Kj,Kg,K1g,List.cons_append,Kt,Kp,K1q]
    rw[show(Q9 f t.2 j2).length +(0+1+1)-2=(Q9 f t.2 j2).length by omega,List.take_left' rfl]
    exact⟨_,rfl⟩
theorem Q26{V:Type}(f:DNode→List V→V)(t:List DNode):Q9 f t 0=[]:=rfl
theorem Q37{V:Type}(f:DNode→List V→V)(st args:List V)(x:DNode){p:Int×Int}(m:Nat)(hn:need x.1=((m:Int),p))(hm:args.length=m):Q8s f (st++args) x=st++[f x args]:=by
 simp only[Q8s,hn,K5]
 have:(st++args).length -m=st.length:=by rw[Kg];omega
 rw[this,List.take_left' rfl,List.drop_left' rfl]
theorem Q6m{wide vars:Int}{ks ks':List Int}{x:DNode}(h:Q5i wide vars ks x=some ks'):
  (need x.1).2.2 ≠0∧Q2d wide vars x.1 x.2=true∧(need x.1).1.toNat ≤ks.length∧(ks.drop (ks.length-(need x.1).1.toNat)).all (fun y=>y==(need x.1).2.1)=true∧ks'=ks.take (ks.length-(need x.1).1.toNat)++[(need x.1).2.2]:=by
 unfold Q5i at h
 split at h
 ·simp at h
 ·split at h
  ·split at h
   ·simp at h
   ·split at h
    ·rename_i h1 h2 h3 h4
     simp only[K0]at h
     refine⟨h1,h2,?_,h4,h.symm⟩
     obtain⟨m,hm,_⟩:=Q3x x.1
     rw[hm]at h3⊢
     omega
    ·simp at h
  ·simp at h
theorem Qdf{op:Int}{m p o:Int}(h:need op=(m,p,o))(ho:o≠0):(m=0∧o=1∧(op=1∨op=2))∨(m=0∧o=2∧op=20)∨(m=1∧p=1∧o=1∧op=13)∨(m=1∧p=2∧o=2∧op=19)∨(m=2∧p=1∧o=1∧3≤op∧op≤12)∨(m=2∧p=1∧o=2∧14≤op∧op≤16)∨(m=2∧p=2∧o=2∧(op=17∨op=18)):=by
 unfold need at h
 by_cases c1:op=1∨op=2
 ·rw[if_pos c1]at h
  cases h
  exact .inl ⟨rfl,rfl,c1⟩
 rw[if_neg c1]at h
 by_cases c2:op=20
 ·rw[if_pos c2]at h
  cases h
  exact .inr (.inl ⟨rfl,rfl,c2⟩)
 rw[if_neg c2]at h
 by_cases c3:op=13
 ·rw[if_pos c3]at h
  cases h
  exact .inr (.inr (.inl ⟨rfl,rfl,rfl,c3⟩))
 rw[if_neg c3]at h
 by_cases c4:op=19
 ·rw[if_pos c4]at h
  cases h
  exact .inr (.inr (.inr (.inl ⟨rfl,rfl,rfl,c4⟩)))
 rw[if_neg c4]at h
 by_cases c5:3≤op∧op≤12
 ·rw[if_pos c5]at h
  cases h
  exact .inr (.inr (.inr (.inr (.inl ⟨rfl,rfl,rfl,c5⟩))))
 rw[if_neg c5]at h
 by_cases c6:14≤op∧op≤16
 ·rw[if_pos c6]at h
  cases h
  exact .inr (.inr (.inr (.inr (.inr (.inl ⟨rfl,rfl,rfl,c6⟩)))))
 rw[if_neg c6]at h
 by_cases c7:op=17∨op=18
 ·rw[if_pos c7]at h
  cases h
  exact .inr (.inr (.inr (.inr (.inr (.inr ⟨rfl,rfl,rfl,c7⟩)))))
 rw[if_neg c7]at h
 cases h
 exact absurd rfl ho
noncomputable def ap(wide op a b:Int):Int:=(F54 wide op a b).getD 0
theorem Q92(wide op a b:Int)(hw:1≤wide∧wide≤62)(ha:W5 wide a)(hb:W5 wide b)(ho:(3≤op∧op≤12)∨(14≤op∧op≤18)):
  W5 wide (ap wide op a b)∧((op=14∨op=15∨op=16∨((op=17∨op=18)∧a≤1∧b≤1))→ap wide op a b≤1)∧F5m wide op a b=some (ap wide op a b)∧F54 wide op a b=some (ap wide op a b):=by
 obtain⟨r,h1,h2,h3,h4⟩:=Qfk wide op a b hw ha hb ho
 have e:ap wide op a b=r:=by
  unfold ap
  rw[h4]
  rfl
 rw[e]
 exact⟨h1,h2,h3,h4⟩
noncomputable def vop(wide:Int)(s:List Int)(x:DNode):List Int→Int
 |[]=>if x.1=2 then s.getD x.2.toNat 0 else x.2
 |[b]=>if x.1=13 then top wide-b else 1-b
 |[a,b]=>ap wide x.1 a b
 |_=>0
inductive TypedV (wide:Int):List Int→List Int→Prop
 |nil:TypedV wide [] []
 |snoc {ks st:List Int} {k v:Int}:TypedV wide ks st→W5 wide v→(k=2→v≤1)→TypedV wide (ks++[k]) (st++[v])
theorem TypedV.inv{wide:Int}{ks st:List Int}(h:TypedV wide ks st):(ks=[]∧st=[])∨∃ks' st' k v,ks=ks'++[k]∧st=st'++[v]∧TypedV wide ks' st'∧W5 wide v∧(k=2→v≤1):=by
 cases h with
 |nil=>exact .inl ⟨rfl,rfl⟩
 |snoc h1 h2 h3=>exact .inr ⟨_,_,_,_,rfl,rfl,h1,h2,h3⟩
theorem TypedV.len{wide:Int}{ks st:List Int}(h:TypedV wide ks st):ks.length=st.length:=by
 induction h with
 |nil=>rfl
 |snoc _ _ _ ih=>simp[ih]
theorem Qa5(wide:Int)(hw:1≤wide∧wide≤62)(s:List Int)(hs:∀v∈s,W5 wide v)(x:DNode)(hx:U64 x.2){ks ks' st:List Int}
  (h:Q5i wide (s.length:Int) ks x=some ks')(ht:TypedV wide ks st):TypedV wide ks' (Q8s (vop wide s) st x):=by
 obtain⟨h1,h2,h3,h4,rfl⟩:=Q6m h
 have he:=Q4s (wide:=wide) (by omega)
 obtain⟨m,p,o,hn⟩:∃m p o,need x.1=(m,p,o):=⟨_,_,_,rfl⟩
 have hlen:=ht.len
 simp only[Q8s,hn]at h1 h3 h4⊢
 rw[←hlen]
 rcases Qdf hn h1 with⟨rfl,rfl,ho⟩|⟨rfl,rfl,ho⟩|⟨rfl,rfl,rfl,ho⟩|⟨rfl,rfl,rfl,ho⟩|⟨rfl,rfl,rfl,ho⟩|⟨rfl,rfl,rfl,ho⟩|⟨rfl,rfl,rfl,ho⟩
 ·simp only[Int.toNat_zero,Nat.sub_zero,List.take_length]
  rw[hlen,List.take_length,List.drop_length]
  refine .snoc ht ?_ (fun h=>absurd h (by decide))
  unfold Q2d at h2
  rcases ho with ho|ho
  ·rw[if_pos ho,Q1c]at h2
   simp only[vop,ho]
   exact⟨hx.1,h2.2.2⟩
  ·rw[if_neg (by omega),if_pos ho,decide_eq_true_eq]at h2
   simp only[vop,ho,if_true]
   apply hs
   rw[K1,Kc (by have:=hx.1;omega)]
   exact K3 _
 ·simp only[Int.toNat_zero,Nat.sub_zero,List.take_length]
  rw[hlen,List.take_length,List.drop_length]
  unfold Q2d at h2
  rw[if_neg (by omega),if_neg (by omega),if_pos ho,decide_eq_true_eq]at h2
  have h0:=hx.1
  have hne:¬x.1=2:=by omega
  refine .snoc ht ?_ (fun _=> ?_)
  ·simp only[vop,if_neg hne]
   exact⟨h0,by omega⟩
  ·simp only[vop,if_neg hne]
   omega
 ·rcases ht.inv with⟨rfl,rfl⟩|⟨ks,st,k,v,rfl,rfl,t1,t2,t3⟩
  ·simp at h3
  ·have l1:=t1.len
   have e1:(ks++[k]).length -(1:Int).toNat =ks.length:=by simp
   rw[e1]
   rw[List.take_left' rfl,List.take_left' l1.symm,List.drop_left' l1.symm]
   simp only[vop,ho,if_true]
   refine .snoc t1 ?_ (fun h=>absurd h (by decide))
   obtain⟨f1,f2⟩:=t2
   exact⟨by omega,by omega⟩
 ·rcases ht.inv with⟨rfl,rfl⟩|⟨ks,st,k,v,rfl,rfl,t1,t2,t3⟩
  ·simp at h3
  ·have l1:=t1.len
   have e1:(ks++[k]).length -(1:Int).toNat =ks.length:=by simp
   rw[e1]at h4⊢
   rw[List.drop_left' rfl]at h4
   have hk:k=2:=by simpa using h4
   rw[List.take_left' rfl,List.take_left' l1.symm,List.drop_left' l1.symm]
   have hne:¬x.1=13:=by omega
   simp only[vop,if_neg hne]
   obtain⟨f1,f2⟩:=t2
   have f4:=t3 hk
   exact .snoc t1 ⟨by omega,by omega⟩ (fun _=>by omega)
 all_goals
  rcases ht.inv with⟨rfl,rfl⟩|⟨ks,st,k,v,rfl,rfl,t1,t2,t3⟩
  ·simp at h3
  ·rcases t1.inv with⟨rfl,rfl⟩|⟨ks,st,k',v',rfl,rfl,s1,s2,s3⟩
   ·simp at h3
   ·have l1:=s1.len
    have e1:(ks++[k']++[k]).length -(2:Int).toNat =ks.length:=by simp
    rw[e1]at h4⊢
    rw[Kj]at h4
    rw[List.drop_left' rfl]at h4
    simp only[List.cons_append,Kt,List.all_cons,List.all_nil,Bool.and_true,K7,beq_iff_eq]at h4
    rw[Kj ks,Kj st,List.take_left' rfl,List.take_left' l1.symm,List.drop_left' l1.symm]
    obtain⟨q1,q2,_⟩:=Q92 wide x.1 v' v hw s2 t2 (by omega)
    refine .snoc s1 q1 ?_
    first
     |(intro h;exact absurd h (by decide))
     |(intro _;exact q2 (by first|omega|exact .inr (.inr (.inr ⟨ho,s3 h4.1,t3 h4.2⟩))))
theorem Q90(wide:Int)(hw:1≤wide∧wide≤62)(s:List Int)(hs:∀v∈s,W5 wide v)(t:List DNode)(hx:∀x∈t,U64 x.2){r:List Int}(h:Q2c wide (s.length:Int) t []=some r):
  ∀i,i≤t.length→∃ks,Q2c wide (s.length:Int) (t.drop i) ks=some r∧TypedV wide ks (Q9 (vop wide s) t i):=by
 intro i
 induction i with
 |zero=>exact fun _=>⟨[],h,.nil⟩
 |succ i ih=>
  intro hi
  obtain⟨ks,h1,h2⟩:=ih (by omega)
  rw[K2 (by omega)]at h1
  simp only[Q2c,Kh]at h1
  obtain⟨ks',h3,h4⟩:=h1
  exact⟨ks',h4,by rw[Q1q _ _ _ (by omega)];exact Qa5 wide hw s hs _ (hx _ (K3 _)) h3 h2⟩
theorem Q62(wide:Int)(hw:1≤wide∧wide≤62)(s:List Int)(hs:∀v∈s,W5 wide v)(t:List DNode)(hx:∀x∈t,U64 x.2){r:List Int}(h:Q2c wide (s.length:Int) t []=some r)(i:Nat)(hi:i<t.length):
  Q2d wide (s.length:Int) t[i].1 t[i].2 =true∧
  (((t[i].1 =1∨t[i].1 =2∨t[i].1 =20)∧need t[i].1 =(0,(need t[i].1).2))∨
   ((t[i].1 =13∨t[i].1 =19)∧need t[i].1 =(1,(need t[i].1).2)∧∃st b,Q9 (vop wide s) t i=st++[b]∧W5 wide b∧(t[i].1 =19→b≤1))∨
   (((3≤t[i].1 ∧t[i].1 ≤12)∨(14≤t[i].1 ∧t[i].1 ≤18))∧need t[i].1 =(2,(need t[i].1).2)∧∃st a b,Q9 (vop wide s) t i=st++[a,b]∧W5 wide a∧W5 wide b)):=by
 obtain⟨ks,h1,h2⟩:=Q90 wide hw s hs t hx h i (by omega)
 rw[K2 hi]at h1
 simp only[Q2c,Kh]at h1
 obtain⟨ks',h3,_⟩:=h1
 obtain⟨g1,g2,g3,g4,_⟩:=Q6m h3
 refine⟨g2,?_⟩
 obtain⟨m,p,o,hn⟩:∃m p o,need t[i].1 =(m,p,o):=⟨_,_,_,rfl⟩
 generalize Q9 (vop wide s) t i=st at h2⊢
 simp only[hn]at g1 g3 g4⊢
 rcases Qdf hn g1 with⟨rfl,rfl,ho⟩|⟨rfl,rfl,ho⟩|⟨rfl,rfl,rfl,ho⟩|⟨rfl,rfl,rfl,ho⟩|⟨rfl,rfl,rfl,ho⟩|⟨rfl,rfl,rfl,ho⟩|⟨rfl,rfl,rfl,ho⟩
 ·exact .inl ⟨by omega,rfl⟩
 ·exact .inl ⟨by omega,rfl⟩
 ·rcases h2.inv with⟨rfl,rfl⟩|⟨ks,st,k,v,rfl,rfl,t1,t2,t3⟩
  ·simp at g3
  ·exact .inr (.inl ⟨.inl ho,rfl,st,v,rfl,t2,fun h=>by omega⟩)
 ·rcases h2.inv with⟨rfl,rfl⟩|⟨ks,st,k,v,rfl,rfl,t1,t2,t3⟩
  ·simp at g3
  ·have e1:(ks++[k]).length -(1:Int).toNat =ks.length:=by simp
   rw[e1,List.drop_left' rfl]at g4
   exact .inr (.inl ⟨.inr ho,rfl,st,v,rfl,t2,fun _=>t3 (by simpa using g4)⟩)
 all_goals
  rcases h2.inv with⟨rfl,rfl⟩|⟨ks,st,k,v,rfl,rfl,t1,t2,t3⟩
  ·simp at g3
  ·rcases t1.inv with⟨rfl,rfl⟩|⟨ks,st,k',v',rfl,rfl,s1,s2,s3⟩
   ·simp at g3
   ·exact .inr (.inr ⟨by omega,rfl,st,v',v,by simp,s2,t2⟩)
theorem Qfh(wide b:Int)(hw:1≤wide∧wide≤62)(hb:W5 wide b):bAnd .u64 (bXor .u64 18446744073709551615 b) (top wide)=top wide-b:=by
 obtain⟨h1,h2⟩:=Q97 (wide:=wide) (by omega) hb.1 hb.2
 rw[Q1h (by omega) h1,h2]
theorem Qc0(wide:Int)(hw:1≤wide∧wide≤62)(s:Bool×List Int)(hl:s.2.length≤1000)(hs:∀v∈s.2,W5 wide v)(t:Bool×List DNode)(ht:t.2.length≤1000)(hx:WfN t.2){r:List Int}(h:Q2c wide (s.2.length:Int) t.2 []=some r)(d:Nat):
  ∀(i:Nat) (b:Bool),i+d=t.2.length→(Q9 (vop wide s.2) t.2 i).length ≤i→
  ∃b',F3i wide s (b,Q9 (vop wide s.2) t.2 i) t (t.2.length:Int) (i:Int)=some (b',Q9 (vop wide s.2) t.2 t.2.length):=by
 have he:=Q4s (wide:=wide) (by omega)
 have hlim:=J5
 induction d with
 |zero=>
  intro i b hi hst
  obtain rfl:i=t.2.length:=by omega
  rw[F3iE,gF (by omega)]
  exact⟨b,rfl⟩
 |succ d ih=>
  intro i b0 hi hst
  have hlt:i<t.2.length:=by omega
  have hu:=hx _ (K3 hlt)
  have go:=fun b=>ih (i+1) b (by omega)
  obtain⟨hlf,hop⟩:=Q62 wide hw s.2 hs t.2 hx h i hlt
  have es:=Q1q (vop wide s.2) t.2 i hlt
  rw[F3iE,gT (by omega),gT (by omega),gT (by omega),J2 t.2 _ i hlt]
  simp only[up1 i (by omega)]
  unfold Q2d at hlf
  generalize hS:Q9 (vop wide s.2) t.2 i=st at *
  rcases hop with⟨ho,hn⟩|⟨ho,hn,st,b,rfl,fb,hb⟩|⟨ho,hn,st,a,b,rfl,fa,fb⟩
  ·have e1:=Q37 (vop wide s.2) st [] t.2[i] 0 hn rfl
   rw[K1s]at e1
   rw[es,e1]at go
   obtain⟨b',g⟩:=go (b0&&false) (by simp;omega)
   refine⟨b',?_⟩
   rcases ho with ho|ho|ho
   ·have e2:vop wide s.2 t.2[i] []=t.2[i].2 :=by simp[vop,ho]
    rw[e2]at g
    rw[ho,bT (by rfl),bT (by rfl),gT (by simp;omega),g]
    rfl
   ·have e2:vop wide s.2 t.2[i] []=s.2.getD t.2[i].2.toNat 0:=by simp[vop,ho]
    rw[e2]at g
    rw[if_neg (by omega),if_pos ho,decide_eq_true_eq]at hlf
    have hu0:=hu.1
    rw[ho,bF (by rfl),bF (by rfl),bT (by rfl),gT hu0,gT hlf,gT (by simp;omega),g]
    rfl
   ·have e2:vop wide s.2 t.2[i] []=t.2[i].2 :=by simp[vop,ho]
    rw[e2]at g
    rw[ho,bF (by rfl),bT (by rfl),gT (by simp;omega),g]
    rfl
  ·have e1:=Q37 (vop wide s.2) st [b] t.2[i] 1 hn rfl
   rw[es,e1]at go
   obtain⟨b',g⟩:=go b0 (by simp;simp at hst;omega)
   refine⟨b',?_⟩
   have hlen1:(st++[b]).length =st.length+1:=by simp
   have e3:IntKind.i64.wrap (((st++[b]).length :Int)-1)=(st.length:Int):=by
    rw[hlen1,wr (by omega)]
    omega
   have e4:(st++[b]).getD (Int.toNat (st.length:Int)) 0=b:=by simp
   have e5:∀v:Int,(st++[b]).set (Int.toNat (st.length:Int)) v=st++[v]:=fun v=>by simp
   have e6:(st.length:Int)<((st++[b]).length :Int):=by omega
   have fb':=fb
   obtain⟨f1,f2⟩:=fb
   rw[e3,e4]
   rcases ho with ho|ho
   ·have e2:vop wide s.2 t.2[i] [b]=top wide-b:=by simp[vop,ho]
    rw[e2]at g
    rw[ho,bF (by rfl),bF (by rfl),bF (by rfl),bT (by rfl),gT (by omega),gT e6,Q31 wide (by omega),J0,gT (by omega),gT e6,e5,Qfh wide b hw fb',g]
    rfl
   ·have e2:vop wide s.2 t.2[i] [b]=1-b:=by simp[vop,ho]
    rw[e2]at g
    have hb1:=hb ho
    rw[ho,bF (by rfl),bF (by rfl),bF (by rfl),bF (by rfl),bT (by rfl),gT (by omega),gT e6,gT (by omega),gT e6,e5,wru (by omega),g]
    rfl
  ·have e1:=Q37 (vop wide s.2) st [a,b] t.2[i] 2 hn rfl
   rw[es,e1]at go
   obtain⟨b',g⟩:=go (b0&&false) (by simp;simp at hst;omega)
   refine⟨b',?_⟩
   have hlen:(st++[a,b]).length =st.length+2:=by simp
   have e3:IntKind.i64.wrap (((st++[a,b]).length :Int)-1)=((st.length+1:Nat):Int):=by rw[hlen,wr (by omega)];omega
   have e3':IntKind.i64.wrap (((st.length+1:Nat):Int)-1)=(st.length:Int):=by rw[wr (by omega)];omega
   have e4:(st++[a,b]).getD (Int.toNat ((st.length+1:Nat):Int)) 0=b:=by simp[K1]
   have e4':(st++[a,b]).getD (Int.toNat (st.length:Int)) 0=a:=by simp[K1]
   have e2:vop wide s.2 t.2[i] [a,b]=ap wide t.2[i].1 a b:=rfl
   have e7:((st++[a,b]).take (Int.toNat (st.length:Int))).drop 0=st:=by simp
   rw[e2]at g
   rw[e3,e3',e4,e4',e7,hlen,bF (beqF (by omega)),bF (beqF (by omega)),bF (beqF (by omega)),bF (beqF (by omega)),bF (beqF (by omega)),gT (by omega),gT (by omega),gT (by omega),gT (by omega),gT (by omega),gT (by omega),(Q92 wide t.2[i].1 a b hw fa fb ho).2.2.2,J0,gT (by simp;omega),g]
   rfl
theorem Qgt(wide:Int)(hw:1≤wide∧wide≤62)(s:Bool×List Int)(hl:s.2.length≤1000)(hs:∀v∈s.2,W5 wide v)(t:Bool×List DNode)(ht:t.2.length≤48)(hx:WfN t.2){r:List Int}(h:Q2c wide (s.2.length:Int) t.2 []=some r):
  ∀(n i:Nat),i≤n→i<t.2.length→∃st v,Q9 (vop wide s.2) t.2 (i+1)=st++[v]∧F43 wide t (i:Int) s=some v:=by
 have hen:Qfz (vop wide s.2) t.2:=by
  intro i hi
  obtain⟨_,hop⟩:=Q62 wide hw s.2 hs t.2 hx h i hi
  rcases hop with⟨ho,hn⟩|⟨ho,hn,st,b,e,fb,hb⟩|⟨ho,hn,st,a,b,e,fa,fb⟩
  ·rw[hn]
   simp
  ·rw[hn,e]
   simp
  ·rw[hn,e]
   simp
 have he:=Q4s (wide:=wide) (by omega)
 intro n
 induction n using Nat.strongRecOn with
 |_ n ih=>
  intro i hi hlt
  have hu:=hx _ (K3 hlt)
  obtain⟨hlf,hop⟩:=Q62 wide hw s.2 hs t.2 hx h i hlt
  rw[Q1q _ _ _ hlt,F43E,gT (by omega),gT (by omega),J2 t.2 _ i hlt,Qaj,J0]
  have hpos:∀{x:List Int},0<x.length→Q9 (vop wide s.2) t.2 i=x→0<i:=by
   intro x hl e
   rcases Nat.eq_zero_or_pos i with rfl|h0
   ·rw[Q26]at e
    subst e
    simp at hl
   ·exact h0
  rcases hop with⟨ho,hn⟩|⟨ho,hn,st,b,e,fb,hb⟩|⟨ho,hn,st,a,b,e,fa,fb⟩
  ·refine⟨Q9 (vop wide s.2) t.2 i,vop wide s.2 t.2[i] [],?_,?_⟩
   ·have:=Q37 (vop wide s.2) (Q9 (vop wide s.2) t.2 i) [] t.2[i] 0 hn rfl
    rwa[K1s]at this
   ·have h20:(need t.2[i].1).1 =0:=by rw[hn]
    unfold Q2d at hlf
    by_cases h2:t.2[i].1 =2
    ·rw[if_neg (by omega),if_pos h2,decide_eq_true_eq]at hlf
     have hu0:=hu.1
     rw[bT (by simpa using h2),gT hu0,gT hlf]
     simp only[vop,if_pos h2]
    ·rw[bF (beqF h2),h20,bT (by rfl)]
     simp only[vop,if_neg h2]
  ·have h0:=hpos (by simp) e
   obtain⟨st',v,g1,g2⟩:=ih (i-1) (by omega) (i-1) (by omega) (by omega)
   rw[show i-1+1=i by omega,e]at g1
   have q0:st=st'∧[b]=[v]:=List.append_inj' g1 rfl
   have q0':v=b:=by have:=q0.2;simp at this;exact this.symm
   subst q0'
   refine⟨st,vop wide s.2 t.2[i] [v],?_,?_⟩
   ·rw[e]
    exact Q37 (vop wide s.2) st [v] t.2[i] 1 hn rfl
   ·have h20:(need t.2[i].1).1 =1:=by rw[hn]
    rw[bF (beqF (by omega)),h20,bF (by rfl),dn1 i (by omega) h0,g2]
    obtain⟨f1,f2⟩:=fb
    obtain⟨q1,q2⟩:=Q97 (wide:=wide) (by omega) f1 f2
    rcases ho with ho|ho
    ·rw[ho,bT (by rfl),J0,Q4a (by omega) q1,J0,q2]
     simp only[vop,ho,if_true]
    ·have hb1:=hb ho
     rw[ho,bF (by rfl),bT (by rfl),J0,wru (by omega)]
     simp only[vop,ho]
     rfl
  ·have h0:=hpos (by simp) e
   obtain⟨j,hj,q2,v2,q3⟩:=Qhq (vop wide s.2) t ht hen (i-1) (i-1) (by omega) (by omega)
   rw[show i-1+1=i by omega,e]at q3
   have q4:st++[a]=Q9 (vop wide s.2) t.2 j∧[b]=[v2]:=List.append_inj' (by rw[←q3];simp) rfl
   obtain⟨q5,q6⟩:=q4
   have hj0:0<j:=by
    rcases Nat.eq_zero_or_pos j with rfl|hj0
    ·rw[Q26]at q5
     simp at q5
    ·exact hj0
   obtain⟨st1,v1,g1,g2⟩:=ih (j-1) (by omega) (j-1) (by omega) (by omega)
   rw[show j-1+1=j by omega,←q5]at g1
   obtain⟨st3,v3,g3,g4⟩:=ih (i-1) (by omega) (i-1) (by omega) (by omega)
   rw[show i-1+1=i by omega,e]at g3
   have r1:st=st1∧[a]=[v1]:=List.append_inj' g1 rfl
   have r3:st++[a]=st3∧[b]=[v3]:=List.append_inj' (by rw[←g3];simp) rfl
   have r1':v1=a:=by have:=r1.2;simp at this;exact this.symm
   have r3':v3=b:=by have:=r3.2;simp at this;exact this.symm
   subst r1' r3'
   refine⟨st,vop wide s.2 t.2[i] [v1,v3],?_,?_⟩
   ·rw[e]
    exact Q37 (vop wide s.2) st [v1,v3] t.2[i] 2 hn rfl
   ·have h20:(need t.2[i].1).1 =2:=by rw[hn]
    rw[bF (beqF (by omega)),h20,bF (by rfl),bF (beqF (by omega)),bF (beqF (by omega)),dn1 i (by omega) h0,q2,J0,dn1 j (by omega) hj0,g2,J0,g4,J0,(Q92 wide t.2[i].1 v1 v3 hw fa fb ho).2.2.1,J0]
    rfl
noncomputable def valT(wide:Int)(s:List Int)(t:List DNode):Int:=(Q9 (vop wide s) t t.length).getD 0 0
theorem Q4i(wide:Int)(hw:1≤wide∧wide≤62)(s:Bool×List Int)(hl:s.2.length≤1000)(hs:∀v∈s.2,W5 wide v)(t:Bool×List DNode)(hx:WfN t.2)(hk:Qe wide (s.2.length:Int) t.2≠0):
  W5 wide (valT wide s.2 t.2)∧(Qe wide (s.2.length:Int) t.2=2→valT wide s.2 t.2≤1)∧F43 wide t (IntKind.i64.wrap ((t.2.length:Int)-1)) s=some (valT wide s.2 t.2)∧Fq wide t s=some (valT wide s.2 t.2):=by
 obtain⟨_,_,_,_,hl1,hl2⟩:=Q3u hk
 have hne:t.2≠[]:=by intro h;rw[h]at hl1;simp at hl1
 obtain⟨hf,_⟩:=Q6l hk hne
 obtain⟨ks,h3,h4⟩:=Q90 wide hw s.2 hs t.2 hx hf t.2.length (Ky _)
 rw[List.drop_length]at h3
 simp only[Q2c,K0]at h3
 subst h3
 obtain⟨st,v,h1,h2⟩:=Qgt wide hw s hl hs t hl2 hx hf t.2.length (t.2.length-1) (by omega) (by omega)
 rw[show t.2.length-1+1=t.2.length by omega]at h1
 have h5:=h4.inv
 rw[h1]at h5
 rcases h5 with⟨h5,_⟩|⟨ks',st',k',v',e1,e2,h6,h7,h8⟩
 ·simp at h5
 ·have hk0:[]=ks'∧[Qe wide (s.2.length:Int) t.2]=[k']:=List.append_inj' (s₁:=[]) e1 rfl
  have hv0:st=st'∧[v]=[v']:=List.append_inj' e2 rfl
  obtain⟨rfl,e3⟩:=hk0
  obtain⟨rfl,e4⟩:=hv0
  simp only[Kx,and_true]at e3 e4
  subst e3 e4
  have hlen:=h6.len
  have hst:st=[]:=K28 (by simpa using hlen.symm)
  subst hst
  have hval:valT wide s.2 t.2=v:=by unfold valT;rw[h1];rfl
  rw[hval]
  refine⟨h7,h8,?_,?_⟩
  ·rw[dn1 t.2.length (by omega) (by omega),h2]
  ·obtain⟨b',g⟩:=Qc0 wide hw s hl hs t (by omega) hx hf t.2.length 0 false (by omega) (by simp[Q26])
   rw[Q26,h1]at g
   rw[FqE]
   have g':F3i wide s (false,[]) t (t.2.length:Int) 0=some (b',[]++[v]):=g
   rw[g',J0,gT (by simp)]
   rfl
def Qaw(wide no:Int)(i:Nat):Int:=no / 2^(wide.toNat*i)%(top wide+1)
def Qd(p:DProgram)(no:Int):List Int:=(List.range p.2.1.toNat).map (Qaw p.1 no)
structure Sml (p:DProgram):Prop where
 w1:1≤p.1
 w2:p.1≤5
 v1:1≤p.2.1
 v2:p.2.1≤4
 a1:p.1*p.2.1≤5
 a2:1≤p.1*p.2.1
theorem Qa9{p:DProgram}(h:Q1f p=true):Sml p:=by
 obtain⟨_,h1,h2,h3,h4,h5,h6⟩:=Q6j h
 exact⟨h1,h2,h3,h4,h5,h6⟩
theorem Q2x{p:DProgram}(hp:Sml p)(no:Int):∀v∈Qd p no,W5 p.1 v:=by
 intro v hv
 obtain⟨i,_,rfl⟩:=Kv.1 hv
 exact Q3w ⟨hp.w1,by have:=hp.w2;omega⟩
theorem Q2n{p:DProgram}(hp:Sml p)(no:Int):((Qd p no).length :Int)=p.2.1:=by
 have:=hp.v1
 simp[Qd]
 omega
theorem Q21(i:Nat)(h:i<63):bShl .i64 1 (i:Int)=((2^i:Nat):Int):=by
 unfold bShl
 have e:min ((i:Int)).toNat (IntKind.i64.bits)=i:=by
  simp only[K5,IntKind.bits]
  omega
 rw[e,Int.one_mul]
 have h2:(2:Nat)^i<2^63:=Nat.pow_lt_pow_right (by decide) h
 have h3:((2^i:Nat):Int)<((2^63:Nat):Int):=by exact_mod_cast h2
 have h4:(0:Int)≤((2^i:Nat):Int):=Int.natCast_nonneg _
 rw[wr]
 ·simp
 ·simp at h4 h3;omega
def Qi(p:DProgram):Nat:=2^(p.1*p.2.1).toNat
theorem Q25{p:DProgram}(hp:Sml p):2≤Qi p∧Qi p≤32:=by
 have h1:=hp.a1
 have h2:=hp.a2
 unfold Qi
 have h3:(2:Nat)^1≤2^(p.1*p.2.1).toNat :=Nat.pow_le_pow_right (by decide) (by omega)
 have h4:(2:Nat)^(p.1*p.2.1).toNat ≤2^5:=Nat.pow_le_pow_right (by decide) (by omega)
 simp at h3 h4
 omega
theorem Qd3{p:DProgram}(hp:Sml p):F4t p=some (Qi p:Int):=by
 have h1:=hp.a1
 have h2:=hp.a2
 obtain⟨n,hn⟩:=Ke (show 0≤p.1*p.2.1 by omega)
 rw[F4tE,Qi,hn]
 rw[hn]at h1
 rw[wr (by omega),wru (by omega),gF (by omega),Q21 n (by omega),K5]
theorem Q5x{p:DProgram}(hp:Sml p):F55 p=some (Qi p:Int):=by
 have h1:=hp.a1
 have h2:=hp.a2
 obtain⟨n,hn⟩:=Ke (show 0≤p.1*p.2.1 by omega)
 rw[F55E,Qi,hn]
 rw[hn]at h1
 rw[wr (by omega),gF (by omega),Q21 n (by omega),K5]
theorem Q6z{w i:Nat}(h:(w:Int)*(i:Int)≤5):w*i≤5:=by
 rw[←Int.natCast_mul]at h
 omega
theorem Q6u{p:DProgram}(hp:Sml p)(no:Int)(i:Nat)(hi:(i:Int)<p.2.1)(hn:0≤no∧no<1000):
  ∃a q:Int,0≤a∧IntKind.u64.wrap (IntKind.i64.wrap ((i:Int)*p.1))=a∧IntKind.i64.wrap (p.1*(i:Int))=a∧bShr .i64 no a=q∧bShr .u64 (IntKind.u64.wrap no) a=q∧0≤q∧q≤no∧Qaw p.1 no i=q%(top p.1+1):=by
 have h1:p.1*(i:Int)≤p.1*p.2.1:=Int.mul_le_mul_of_nonneg_left (by omega) (by have:=hp.w1;omega)
 have h2:=hp.a1
 have h3:=hp.w1
 obtain⟨w,hw⟩:=Ke (show 0≤p.1 by omega)
 rw[hw]at h1 h2⊢
 have hwi:=Q6z (w:=w) (i:=i) (by omega)
 have e1:(w:Int)*(i:Int)=((w*i:Nat):Int):=by simp
 refine⟨((w*i:Nat):Int),no / 2^(w*i),Int.natCast_nonneg _,?_,?_,?_,?_,Int.ediv_nonneg hn.1 (Int.le_of_lt (Int.pow_pos (by decide))),Int.ediv_le_self _ hn.1,rfl⟩
 ·rw[Int.mul_comm,e1,wr (by omega),wru (by omega)]
 ·rw[e1,wr (by omega)]
 ·exact Q2h .i64 no _ (by simp only[IntKind.bits];omega)
 ·rw[wru (by omega)]
  exact Q2h .u64 no _ (by simp only[IntKind.bits];omega)
theorem Qfa(w:Nat)(h:w≤5):IntKind.i64.wrap (bShl .i64 1 (w:Int)-1)=2^w-1:=by
 have hp:(2:Nat)^w≤2^5:=Nat.pow_le_pow_right (by decide) h
 have h0:0<(2:Nat)^w:=Nat.two_pow_pos w
 rw[Q21 w (by omega),wr (by omega)]
 simp
theorem Qgd(q:Int)(w:Nat)(hq:0≤q∧q<1000)(h:w≤5):bAnd .i64 q (2^w-1)=q%2^w:=
 bits_mask .i64 63 (by decide) (fun n h0 h1=>wr ⟨by omega,by simpa using h1⟩) w (by omega) _ hq.1 (by simp;omega)
theorem l7Of{p:DProgram}(hp:Sml p)(no:Int)(hn:0≤no∧no<1000):F1w p no=some (false,Qd p no):=by
 obtain⟨h1,h2,h3,h4,h5,h6⟩:=hp
 have hp:Sml p:=⟨h1,h2,h3,h4,h5,h6⟩
 have hlim:=J5
 obtain⟨v,hv⟩:=Ke (show 0≤p.2.1 by omega)
 obtain⟨w,hw⟩:=Ke (show 0≤p.1 by omega)
 have key:∀(d i:Nat) (b:Bool) (out:List Int),i+d=v→out.length=i→F9h no p (b,out) (i:Int)=some ((if d=0 then b else false),out++(List.range' i d).map (Qaw p.1 no)):=by
  intro d
  induction d with
  |zero=>
   intro i b out hi ho
   rw[F9hE,gF (by omega)]
   simp
  |succ d ih=>
   intro i b out hi ho
   obtain⟨a,q,p0,f1,f2,f3,f4,q0,q1,fw⟩:=Q6u hp no i (by omega) hn
   have e3:=Qfa w (by omega)
   have e5:=Qgd q w ⟨q0,by omega⟩ (by omega)
   have e6:((2:Int)^w)=top p.1+1:=by rw[hw,Q4h];simp
   have hu:=(Q3w (wide:=p.1) (q:=q) (by omega)).u64 (wide:=p.1) (by omega)
   rw[F9hE,gT (by omega),f1,gF (by omega),wru (by omega),gF (by omega),hw,e3,f3,e5,e6,wru hu,gT (by simp;omega),up1 i (by omega),ih (i+1) _ _ (by omega) (by simp;omega),←fw,J0]
   simp[K19,hw]
 have:=key v 0 true [] (by omega) rfl
 rw[F1wE,Qd,K1c,hv,K5]
 have this':F9h no p (true,[]) 0=_:=this
 rw[this',J0,if_neg (by omega)]
 rfl
theorem Qa1{p:DProgram}(hp:Sml p)(no:Int)(hn:0≤no∧no<1000):F1y p no=some (false,Qd p no):=by
 obtain⟨h1,h2,h3,h4,h5,h6⟩:=hp
 have hp:Sml p:=⟨h1,h2,h3,h4,h5,h6⟩
 have hlim:=J5
 obtain⟨v,hv⟩:=Ke (show 0≤p.2.1 by omega)
 have key:∀(d i:Nat) (out:List Int),i+d=v→out.length=i→F7b no p (false,out) p.2.1 (i:Int)=some (false,out++(List.range' i d).map (Qaw p.1 no)):=by
  intro d
  induction d with
  |zero=>
   intro i out hi ho
   rw[F7bE,gF (by omega)]
   simp
  |succ d ih=>
   intro i out hi ho
   obtain⟨a,q,p0,f1,f2,f3,f4,q0,q1,fw⟩:=Q6u hp no i (by omega) hn
   rw[F7bE,gT (by omega),f2,gF (by omega),Q31 p.1 (by omega),J0,f4,Q1h (wide:=p.1) (by omega) ⟨q0,by omega⟩,gT (by simp;omega),up1 i (by omega),K24,ih (i+1) _ (by omega) (by simp;omega),←fw,J0]
   simp[K19]
 have:=key v 0 [] (by omega) rfl
 rw[F1yE,Qd,K1c,hv,K5]
 rw[hv]at this
 have this':F7b no p (false,[]) (v:Int) 0=_:=this
 rw[this',J0]
 rfl
noncomputable def Qad(p:DProgram)(t:List DNode)(s:List Int):Bool:=valT p.1 s t==1
noncomputable def Q15(p:DProgram)(t:List DNode)(no:Int):Bool:=Qad p t (Qd p no)
theorem Qbb{p:DProgram}(hp:Sml p)(t:Bool×List DNode)(hx:WfN t.2)(hk:Qe p.1 p.2.1 t.2≠0)(b:Bool)(s:List Int)(hl:(s.length:Int)=p.2.1)(hs:∀v∈s,W5 p.1 v):
  F4l p t (b,s)=some (Qad p t.2 s)∧F4g p t (b,s)=some (Qad p t.2 s):=by
 have h1:=hp.w1
 have h2:=hp.w2
 have h3:=hp.v2
 obtain⟨_,_,h4,h5⟩:=Q4i p.1 (by omega) (b,s) (by simp only;omega) hs t hx (by rw[show(((b,s):Bool×List Int).2.length :Int)=p.2.1 from hl];exact hk)
 exact⟨by rw[F4lE,h4];rfl,by rw[F4gE,h5];rfl⟩
theorem Q52{p:DProgram}(hp:Sml p)(t:Bool×List DNode)(hx:WfN t.2)(hk:Qe p.1 p.2.1 t.2≠0)(b:Bool)(no:Int):
  F4l p t (b,Qd p no)=some (Q15 p t.2 no)∧F4g p t (b,Qd p no)=some (Q15 p t.2 no):=
 Qbb hp t hx hk b _ (Q2n hp no) (Q2x hp no)
theorem Q86{p:DProgram}(hp:Sml p)(t:Bool×List DNode)(hx:WfN t.2)(hk:Qe p.1 p.2.1 t.2≠0)(b:Bool)(no:Int):
  F4l p t (b,Qd p no)=some (Q15 p t.2 no):=by
 have h1:=hp.w1
 have h2:=hp.w2
 have h3:=hp.v2
 have hl:=Q2n hp no
 obtain⟨_,_,h4,_⟩:=Q4i p.1 (by omega) (b,Qd p no) (by simp only;omega) (Q2x hp no) t hx (by rw[show(((b,Qd p no):Bool×List Int).2.length :Int)=p.2.1 from hl];exact hk)
 rw[F4lE,h4];rfl
noncomputable def Qz(p:DProgram)(t:List DNode)(i d:Nat):List Int:=((List.range' i d).map Int.ofNat).filter (Q15 p t)
theorem Q5z(p:DProgram)(t:List DNode)(i d:Nat):Qz p t i (d+1)=(if Q15 p t (i:Int)=true then[(i:Int)]else[])++Qz p t (i+1) d:=by
 simp only[Qz,K19,K14,K1j]
 cases hh:Q15 p t (i:Int)<;>simp[hh]
theorem Qbm{p:DProgram}{t:List DNode}{n:Nat}{x:Int}:x∈Qz p t 0 n↔(0≤x∧x<n)∧Q15 p t x=true:=by
 simp only[Qz,K1d,Kv,List.mem_range'_1]
 constructor
 ·rintro⟨⟨a,h1,rfl⟩,h2⟩
  exact⟨⟨Int.natCast_nonneg _,by have:=h1.2;simp;omega⟩,h2⟩
 ·rintro⟨⟨h1,h2⟩,h3⟩
  exact⟨⟨x.toNat,by omega,K1p h1⟩,h3⟩
theorem Q7o(p:DProgram)(t:List DNode)(i d:Nat):(Qz p t i d).length ≤d:=by
 refine K12 (K1m _ _) ?_
 simp
theorem Qfr{p:DProgram}(hp:Sml p)(t:Bool×List DNode)(hx:WfN t.2)(hk:Qe p.1 p.2.1 t.2≠0):
  ∀(d i:Nat) (b:Bool) (out:List Int),i+d=Qi p→out.length≤i→∃b',F63 t p (b,out) (i:Int)=some (b',out++Qz p t.2 i d):=by
 have hm:=Q25 hp
 have hlim:=J5
 intro d
 induction d with
 |zero=>
  intro i b out hi ho
  rw[F63E,Qd3 hp,J0,gF (by omega)]
  exact⟨b,by simp[Qz]⟩
 |succ d ih=>
  intro i b out hi ho
  rw[F63E,Qd3 hp,J0,gT (by omega),l7Of hp _ (by omega),J0,Q86 hp t hx hk _ _,J0,Q5z,up1 i (by omega)]
  cases hh:Q15 p t.2 (i:Int)with
  |true=>
   obtain⟨b',g⟩:=ih (i+1) (b&&false) (out++[(i:Int)]) (by omega) (by simp;omega)
   exact⟨b',by rw[cond_true,gT (by simp;omega),g];simp⟩
  |false=>
   obtain⟨b',g⟩:=ih (i+1) b out (by omega) (by omega)
   exact⟨b',by rw[cond_false,g];simp⟩
theorem Qgv{p:DProgram}(hp:Sml p)(t:Bool×List DNode)(hx:WfN t.2)(hk:Qe p.1 p.2.1 t.2≠0):∃b,F2r p t=some (b,Qz p t.2 0 (Qi p)):=by
 obtain⟨b,g⟩:=Qfr hp t hx hk (Qi p) 0 true [] (by omega) (by simp)
 have g':F63 t p (true,[]) 0=_:=g
 exact⟨b,by rw[F2rE,g'];rfl⟩
theorem Qfy{p:DProgram}(hp:Sml p)(t:Bool×List DNode)(hx:WfN t.2)(hk:Qe p.1 p.2.1 t.2≠0):
  ∀(d i:Nat) (b:Bool) (out:List Int),i+d=Qi p→out.length≤i→∃b',F5f t p (b,out) (Qi p:Int) (i:Int)=some (b',out++Qz p t.2 i d):=by
 have hm:=Q25 hp
 have hlim:=J5
 intro d
 induction d with
 |zero=>
  intro i b out hi ho
  rw[F5fE,gF (by omega)]
  exact⟨b,by simp[Qz]⟩
 |succ d ih=>
  intro i b out hi ho
  rw[F5fE,gT (by omega),Qa1 hp _ (by omega),J0,(Q52 hp t hx hk _ _).2,J0,Q5z,up1 i (by omega)]
  cases hh:Q15 p t.2 (i:Int)with
  |true=>
   obtain⟨b',g⟩:=ih (i+1) (b&&false) (out++[(i:Int)]) (by omega) (by simp;omega)
   exact⟨b',by rw[cond_true,gT (by simp;omega),g];simp⟩
  |false=>
   obtain⟨b',g⟩:=ih (i+1) b out (by omega) (by omega)
   exact⟨b',by rw[cond_false,g];simp⟩
theorem Qh8{p:DProgram}(hp:Sml p)(t:Bool×List DNode)(hx:WfN t.2)(hk:Qe p.1 p.2.1 t.2≠0):∃b,F2f p t=some (b,Qz p t.2 0 (Qi p)):=by
 obtain⟨b,g⟩:=Qfy hp t hx hk (Qi p) 0 false [] (by omega) (by simp)
 have g':F5f t p (false,[]) (Qi p:Int) 0=_:=g
 exact⟨b,by rw[F2fE,Q5x hp,J0,g'];rfl⟩
theorem Q6y{α:Type}(l:List α)(q:α→Bool)(F:Int→Option (Bool ⊕ Unit))
  (hs:∀(i:Nat) (h:i<l.length),F (i:Int)=bif !q l[i]then some (.inl false)else F ((i+1:Nat):Int))(he:F (l.length:Int)=some (.inr ())):F 0=some (if l.all q=true then .inr ()else .inl false):=by
 have:=J3m l q (β:=Bool ⊕ Unit) (.inr ()) (.inl false) F (fun i h=>by rw[hs i h];cases q l[i]<;>rfl) he
 rw[this]
 cases l.all q<;>rfl
theorem Qj{α:Type}(l:List α)(z:α)(i:Nat):l.getD (Int.toNat (i:Int)) z=l.getD i z:=by rw[K5]
def Q2q:Int→List Int→Bool
 |_,[]=>true
 |c,x::l=>decide (0≤x∧x≤c)&&Q2q (if x=c then c+1 else c) l
def Qn(p:DProgram)(v:List Int):Bool:=Q1f p&&(decide ((v.length:Int)=Qi p)&&Q2q 0 v)
theorem Qdn(l:List Int):∀c:Int,Q2q c l=true→∀x∈l,0≤x∧x≤c+l.length:=by
 induction l with
 |nil=>intro c _ x hx;simp at hx
 |cons y l ih=>
  intro c h x hx
  simp only[Q2q,K7,decide_eq_true_eq]at h
  simp only[Kp]
  rcases Kd.1 hx with rfl|hx
  ·omega
  ·have:=ih _ h.2 x hx
   split at this<;>omega
theorem Q84(v:DSight)(hl:v.2.length≤1048576)(d:Nat):∀(i:Nat) (c:Int),i+d=v.2.length→0≤c→c≤i→F62 c v (v.2.length:Int) (i:Int)=some (bif Q2q c (v.2.drop i)then .inr ()else .inl false):=by
 induction d with
 |zero=>
  intro i c hi h0 hc
  rw[F62E,gF (by omega),K8 (by omega)]
  rfl
 |succ d ih=>
  intro i c hi h0 hc
  have hlt:i<v.2.length:=by omega
  rw[F62E,gT (by omega),gT (by omega),gT (by omega),J2 v.2 _ i hlt,Q1x,J0,up1 i (by omega),J1,J1,K2 hlt,Q2q]
  by_cases c1:0≤v.2[i]∧v.2[i]≤c
  ·rw[decide_eq_true c1,K6,cond_false,Kz]
   by_cases c2:v.2[i]=c
   ·rw[bT (by simpa using c2),if_pos c2,wr (by omega),ih (i+1) _ (by omega) (by omega) (by omega)]
   ·rw[bF (beqF c2),if_neg c2,ih (i+1) _ (by omega) (by omega) (by omega)]
  ·rw[decide_eq_false c1]
   rfl
theorem Qbf(n:Int)(v:DSight)(hl:v.2.length≤1048576)(d:Nat):∀(i:Nat) (c:Int),i+d=v.2.length→0≤c→c≤i→F6u n v c v (v.2.length:Int) (i:Int)=some (bif Q2q c (v.2.drop i)then .inr ()else .inl false):=by
 induction d with
 |zero=>
  intro i c hi h0 hc
  rw[F6uE,gF (by omega),K8 (by omega)]
  rfl
 |succ d ih=>
  intro i c hi h0 hc
  have hlt:i<v.2.length:=by omega
  rw[F6uE,gT (by omega),gT (by omega),gT (by omega),J2 v.2 _ i hlt,up1 i (by omega),J1,J1,K2 hlt,Q2q]
  by_cases c3:v.2[i]<0
  ·rw[gT c3,decide_eq_false (by omega)]
   rfl
  ·rw[gF c3]
   by_cases c4:v.2[i]>c
   ·rw[gT c4,decide_eq_false (by omega)]
    rfl
   ·rw[gF c4,decide_eq_true (by omega),Kz]
    by_cases c2:v.2[i]=c
    ·rw[bT (by simpa using c2),if_pos c2,wr (by omega),ih (i+1) _ (by omega) (by omega) (by omega)]
    ·rw[bF (beqF c2),if_neg c2,ih (i+1) _ (by omega) (by omega) (by omega)]
theorem Q6e(p:DProgram)(hs:Q7 p)(hw:WfP p)(v:DSight)(hl:v.2.length≤1048576):F2b p v=some (Qn p v.2):=by
 rw[F2bE,Qau p hs hw,J0,Qn]
 cases h0:Q1f p with
 |false=>rfl
 |true=>
  have hp:=Qa9 h0
  rw[K6,cond_false,Qd3 hp,J0,Kz]
  by_cases c1:(v.2.length:Int)=Qi p
  ·have h:=Q84 v hl v.2.length 0 0 (by omega) (by omega) (by omega)
   have h':F62 0 v (v.2.length:Int) 0=_:=h
   rw[bF (by simp[c1]),h',J0,decide_eq_true c1,Kz,Kf]
   cases Q2q 0 v.2<;>rfl
  ·rw[bT (by simpa using c1),decide_eq_false c1,K1w]
theorem Q6c(p:DProgram)(hs:Q7 p)(v:DSight)(hl:v.2.length≤1048576):F6d p v=some (Qn p v.2):=by
 rw[F6dE,Q6s p hs,J0,Qn]
 cases h0:Q1f p with
 |false=>rfl
 |true=>
  have hp:=Qa9 h0
  have h:=Qbf (Qi p) v hl v.2.length 0 0 (by omega) (by omega) (by omega)
  have h':F6u (Qi p) v 0 v (v.2.length:Int) 0=_:=h
  rw[cond_true,Q5x hp,J0,F16E,h',J0,Kz,Kf]
  cases Q2q 0 v.2 with
  |false=>rw[K24];rfl
  |true=>rw[Bool.and_true];rfl
theorem Q85{p:DProgram}{v:List Int}(h:Qn p v=true):Sml p∧v.length=Qi p∧∀x∈v,0≤x∧x≤32:=by
 simp only[Qn,K7,decide_eq_true_eq]at h
 have hp:=Qa9 h.1
 have hm:=Q25 hp
 exact⟨hp,by omega,fun x hx=>by have:=Qdn v 0 h.2.2 x hx;omega⟩
theorem Qh2(a:DSight)(left:Int)(h0:0≤left∧left≤1048576)(hl:a.2.length≤big):F78 a left=some (if(a.2.length:Int)≤left then left-a.2.length else -1):=by
 rw[F78E,Qhz a left h0 hl,J0]
 by_cases h:(a.2.length:Int)≤left
 ·rw[if_pos h,gF (by omega)]
 ·rw[if_neg h,gT (by omega)]
theorem Qh4(a:DSight)(hl:a.2.length≤1048576):F47 a=some (false,a.2):=by
 rw[F47E,Qi2 a hl,J0]
theorem Q7y(f g:Bool)(l:List Int)(hl:l.length≤1048576):F5d (f,l) (g,l)=some true:=by
 rw[F5dE,Q3a f g l hl]
 rfl
theorem Qd9(b:Bool)(x:List Int)(k:Int)(hl:x.length≤1048576)(h0:0≤k)(hk:k+x.length≤4000000000000000000):F5j (b,x) k=some ((b,Q2b k x.length),k+x.length):=by
 rw[F5jE,Q7h b x k hl h0 hk,J0]
def Q23(v:List Int):Int:=v.foldl (fun m x=>if x≥m then x+1 else m) 0
theorem Qd6(l:List Int):∀m:Int,l.foldl (fun m x=>if x≥m then x+1 else m) (m+1)=l.foldl (fun m x=>if m<x then x else m) m+1:=by
 induction l with
 |nil=>intro m;rfl
 |cons x l ih=>
  intro m
  simp only[K16]
  by_cases h:m<x
  ·rw[if_pos (by omega),if_pos h,ih x]
  ·rw[if_neg (by omega),if_neg h,ih m]
theorem Q9p(v:DSight)(hl:v.2.length≤1048576)(hin:∀x∈v.2,0≤x∧x≤32):F1v v=some (Q23 v.2):=by
 have:=Jy v.2 (fun m x=>if x≥m then x+1 else m) (fun m:Int=>m) (fun m i=>F61 m v (v.2.length:Int) i) (fun _ _=>True) (fun i h s _=>by
  have hx:=hin _ (K3 h)
  refine⟨?_,trivial⟩
  rw[F61E,gT (by omega),gT (by omega),gT (by omega),J2 v.2 _ i h,up1 i (by omega),J1,J1,wr (by omega)]
  by_cases c:v.2[i]≥s
  ·rw[gT c,if_pos c]
  ·rw[gF c,if_neg c]) (fun s _=>by rw[F61E,gF (by omega)]) 0 trivial
 rw[F1vE,this,J0,Q23]
theorem Q2v(v:DSight)(hl:v.2.length≤1048576)(h0:0<v.2.length)(hin:∀x∈v.2,0≤x∧x≤32):Fv v=some (Q23 v.2):=by
 obtain⟨b,w⟩:=v
 match w,h0 with
 |x::w,_=>
  have key:∀(d i:Nat) (m:Int),i+d=(x::w).length →0≤m→m≤32→∃r,F9q (b,x::w) m (i:Int)=some r∧r=((x::w).drop i).foldl (fun m x=>if m<x then x else m) m∧0≤r∧r≤32:=by
   intro d
   induction d with
   |zero=>
    intro i m hi h0 h1
    rw[F9qE,gF (by simp only;omega),K8 (by omega)]
    exact⟨m,rfl,rfl,h0,h1⟩
   |succ d ih=>
    intro i m hi h0 h1
    have hlt:i<(x::w).length :=by omega
    have hx:=hin _ (K3 hlt)
    rw[F9qE,gT (by simp only;omega),gT (by omega),gT (by simp only;omega),J2 (x::w) _ i hlt,up1 i (by simp only at hl;omega),J1,K2 hlt,K16]
    by_cases c:m<(x::w)[i]
    ·rw[decide_eq_true c,cond_true,if_pos c]
     exact ih (i+1) _ (by omega) (by omega) (by omega)
    ·rw[decide_eq_false c,cond_false,if_neg c]
     exact ih (i+1) _ (by omega) (by omega) (by omega)
  have hx:=hin x Kk
  obtain⟨r,e,e2,r0,r1⟩:=key w.length 1 x (by simp;omega) hx.1 hx.2
  have e':F9q (b,x::w) ((x::w).getD 0 0) 1=some r:=e
  rw[FvE,F3mE,gF (by simp only[Kp];omega),gT (by simp only[Kp];omega),e',J0,J0,wr (by omega),Q23,K16,if_pos hx.1,Qd6,e2]
  rfl
theorem Q1t(v:List Int)(hin:∀x∈v,0≤x∧x≤32):0≤Q23 v∧Q23 v≤33:=by
 have key:∀(l:List Int) (m:Int),(∀x∈l,0≤x∧x≤32)→0≤m→m≤33→0≤l.foldl (fun m x=>if x≥m then x+1 else m) m∧l.foldl (fun m x=>if x≥m then x+1 else m) m≤33:=by
  intro l
  induction l with
  |nil=>intro m _ h0 h1;exact⟨h0,h1⟩
  |cons x l ih=>
   intro m hx h0 h1
   have h2:=hx x Kk
   rw[K16]
   refine ih _ (fun y hy=>hx y (K9 _ hy)) ?_ ?_ <;>split<;>omega
 exact key v 0 hin (by omega) (by omega)
theorem Qft:top 32=4294967295:=by decide
theorem Qfc{x y:Int}(hx:0≤x∧x<65536)(hy:0≤y∧y<65536):F3z x y=some (0,x*y):=by
 have a1:bShr .u64 x 32=0:=by rw[show(32:Int)=((32:Nat):Int)from rfl,Q2h .u64 x 32 (by decide)];exact Int.ediv_eq_zero_of_lt hx.1 (by omega)
 have a2:bShr .u64 y 32=0:=by rw[show(32:Int)=((32:Nat):Int)from rfl,Q2h .u64 y 32 (by decide)];exact Int.ediv_eq_zero_of_lt hy.1 (by omega)
 have b1:bAnd .u64 x 4294967295=x:=by rw[←Qft,Q1h (by omega) ⟨hx.1,by omega⟩,Qft,Int.emod_eq_of_lt hx.1 (by omega)]
 have b2:bAnd .u64 y 4294967295=y:=by rw[←Qft,Q1h (by omega) ⟨hy.1,by omega⟩,Qft,Int.emod_eq_of_lt hy.1 (by omega)]
 have h0:0≤x*y:=Int.mul_nonneg hx.1 hy.1
 have h1:x*y<65536*65536:=by
  have:=Int.mul_le_mul (show x≤65535 by omega) (show y≤65535 by omega) hy.1 (by omega)
  omega
 have w0:IntKind.u64.wrap 0=0:=wru (by omega)
 have w1:IntKind.u64.wrap (x*y)=x*y:=wru (by omega)
 have s1:bShr .u64 (x*y) 32=0:=by rw[show(32:Int)=((32:Nat):Int)from rfl,Q2h .u64 _ 32 (by decide)];exact Int.ediv_eq_zero_of_lt h0 (by omega)
 have s0:bShr .u64 0 32=0:=by decide
 have c0:bAnd .u64 0 4294967295=0:=by decide
 rw[F3zE,F6lE,a1,a2,b1,b2,w1,s1]
 simp only[Int.zero_mul,Int.mul_zero,Int.add_zero,w0,s0,c0,J0]
theorem Qdk{α:Type}(a b:Nat)(x:α):List.replicate (a+b) x=List.replicate a x++List.replicate b x:=by
 rw[List.replicate_append_replicate]
theorem Qcr(l:List Int)(m j:Nat)(h:j≤m):(List.replicate m l).flatten.take (j*l.length)=(List.replicate j l).flatten :=by
 obtain⟨d,rfl⟩:=Nat.exists_eq_add_of_le h
 rw[Qdk,List.flatten_append,List.take_left']
 simp
theorem Qdl(l:List Int)(c:Nat)(hl:0<l.length)(hc:c*l.length≤10000000)(d:Nat):∀(m:Nat) (b:Bool) (rest:List Int),m+d=c→1≤m→rest.length=d*l.length→
  F7h (b,(List.replicate m l).flatten ++rest) ((m*l.length:Nat):Int)=some (b,(List.replicate c l).flatten):=by
 induction d using Nat.strongRecOn with
 |_ d ih=>
  intro m b rest hm h1 hr
  have e0:((List.replicate m l).flatten).length =m*l.length:=by simp
  have e1:((List.replicate m l).flatten ++rest).length =c*l.length:=by rw[Kg,e0,hr,←hm,K1a]
  rw[F7hE]
  simp only[e1]
  by_cases hd:d=0
  ·subst hd
   have:rest=[]:=K28 (by simpa using hr)
   subst this
   obtain rfl:m=c:=by omega
   rw[gF (by omega),K1s]
  ·have hlt:m*l.length<c*l.length:=(Nat.mul_lt_mul_right hl).2 (by omega)
   rw[gT (by omega),gT (by omega),gT (by omega),gT (by omega),gT (by omega),J1,K5,List.take_left' e0,Kf,e0]
   have hsub:c*l.length-m*l.length=d*l.length:=by rw[←Nat.sub_mul];congr 1;omega
   have hmin:min (m*l.length) (d*l.length)=(min m d)*l.length:=by
    rcases Nat.le_total m d with h|h
    ·rw[Nat.min_eq_left h,Nat.min_eq_left (Ku _ h)]
    ·rw[Nat.min_eq_right h,Nat.min_eq_right (Ku _ h)]
   have htake:((List.replicate m l).flatten).take (d*l.length)=(List.replicate (min m d) l).flatten :=by
    rcases Nat.le_total m d with h|h
    ·rw[Nat.min_eq_left h,K1i (by rw[e0];exact Ku _ h)]
    ·rw[Nat.min_eq_right h,Qcr l m d h]
   rw[hsub,hmin,htake,←Kj,←List.flatten_append,←Qdk,List.drop_append,K8 (by rw[e0];exact Nat.le_add_right _ _),Kt,e0,show m*l.length+min m d*l.length-m*l.length=min m d*l.length by omega]
   have hadd:m*l.length+min m d*l.length=(m+min m d)*l.length:=by rw[K1a]
   have hle:(m+min m d)*l.length≤c*l.length:=Ku _ (by omega)
   rw[wr (by omega),show((m*l.length:Nat):Int)+((min m d*l.length:Nat):Int)=(((m+min m d)*l.length:Nat):Int) by rw[←hadd];omega]
   exact ih (d-min m d) (by omega) (m+min m d) b (rest.drop (min m d*l.length)) (by omega) (by omega) (by rw[List.length_drop,hr,←Nat.sub_mul])
theorem Q4f(l:Bool×List Int)(c:Nat)(hl:0<l.2.length)(hl2:l.2.length≤1000)(h1:1≤c)(hc:c≤10000):F1x l (c:Int)=some (false,(List.replicate c l.2).flatten):=by
 have hlim:=J5
 have hm:c*l.2.length≤10000*1000:=Nat.mul_le_mul hc hl2
 have hmul:(l.2.length:Int)*(c:Int)=((c*l.2.length:Nat):Int):=by rw[Int.natCast_mul,Int.mul_comm]
 have e:=Qdl l.2 c hl (by omega) (c-1) 1 false ((List.replicate (c*l.2.length) (0:Int)).drop l.2.length) (by omega) (by omega) (by
  rw[List.length_drop,K1n,Nat.sub_mul,Nat.one_mul])
 have hle:l.2.length≤c*l.2.length:=by
  have:=Ku l.2.length h1
  omega
 have e1:l.2.take (List.replicate (c*l.2.length) (0:Int)).length =l.2:=by rw[K1n,K1i hle]
 have e2:min l.2.length (List.replicate (c*l.2.length) (0:Int)).length =l.2.length:=by rw[K1n];omega
 rw[F1xE,gF (by omega),wru (by omega),wru (by omega),Qfc (by omega) (by omega),J0]
 simp only[hmul]
 rw[gF (by omega),gF (by omega),wr (by omega),gT (by omega),gT (by omega),gT (by omega),gT (by omega),K5,e1,e2]
 have e':F7h (false,l.2++(List.replicate (c*l.2.length) (0:Int)).drop l.2.length) (l.2.length:Int)=some (false,(List.replicate c l.2).flatten):=by
  simpa using e
 rw[e',J0]
def insL(n:Int):List Int→List Int
 |[]=>[n]
 |x::l=>if x<n then x::insL n l else if x=n then x::l else n::x::l
def Q10(l:List Int):Prop:=l.Pairwise (· < ·)
theorem Qae(n:Int)(l:List Int):∀x,x∈insL n l↔x=n∨x∈l:=by
 induction l with
 |nil=>intro x;simp[insL]
 |cons y l ih=>
  intro x
  unfold insL
  split
  ·rw[Kd,ih,Kd]
   constructor
   ·rintro(h|h|h)
    ·exact .inr (.inl h)
    ·exact .inl h
    ·exact .inr (.inr h)
   ·rintro(h|h|h)
    ·exact .inr (.inl h)
    ·exact .inl h
    ·exact .inr (.inr h)
  ·split
   ·rename_i h1 h2
    constructor
    ·exact .inr
    ·rintro(h|h)
     ·rw[h,←h2];exact Kk
     ·exact h
   ·rw[Kd]
theorem Q9i(n:Int)(l:List Int)(h:Q10 l):Q10 (insL n l):=by
 induction l with
 |nil=>exact List.pairwise_singleton _ _
 |cons y l ih=>
  obtain⟨h1,h2⟩:=List.pairwise_cons.1 h
  unfold insL
  split
  ·rename_i c
   refine List.pairwise_cons.2 ⟨fun x hx=> ?_,ih h2⟩
   rcases(Qae n l x).1 hx with rfl|hx
   ·exact c
   ·exact h1 x hx
  ·split
   ·exact h
   ·rename_i c1 c2
    refine List.pairwise_cons.2 ⟨fun x hx=> ?_,h⟩
    rcases Kd.1 hx with rfl|hx
    ·omega
    ·have:=h1 x hx
     omega
theorem Q36:∀(a b:List Int),Q10 a→Q10 b→(∀x,x∈a↔x∈b)→a=b:=by
 intro a
 induction a with
 |nil=>
  intro b _ _ h
  cases b with
  |nil=>rfl
  |cons y b=>exact absurd ((h y).2 Kk) (by simp)
 |cons x a ih=>
  intro b ha hb h
  cases b with
  |nil=>exact absurd ((h x).1 Kk) (by simp)
  |cons y b=>
   obtain⟨a1,a2⟩:=List.pairwise_cons.1 ha
   obtain⟨b1,b2⟩:=List.pairwise_cons.1 hb
   have hxy:x=y:=by
    have h1:=(h x).1 Kk
    have h2:=(h y).2 Kk
    rcases Kd.1 h1 with e|h1
    ·exact e
    ·rcases Kd.1 h2 with e|h2
     ·exact e.symm
     ·have:=b1 x h1
      have:=a1 y h2
      omega
   subst hxy
   rw[ih b a2 b2 (fun z=> ?_)]
   constructor
   ·intro hz
    rcases Kd.1 ((h z).1 (K9 _ hz))with e|hz2
    ·have:=a1 z hz
     omega
    ·exact hz2
   ·intro hz
    rcases Kd.1 ((h z).2 (K9 _ hz))with e|hz2
    ·have:=b1 z hz
     omega
    ·exact hz2
def Qs(l:List Int):List Int:=l.foldl (fun o n=>insL n o) []
theorem Q82(l:List Int):∀o,Q10 o→Q10 (l.foldl (fun o n=>insL n o) o)∧∀x,x∈l.foldl (fun o n=>insL n o) o↔x∈o∨x∈l:=by
 induction l with
 |nil=>intro o h;exact⟨h,by simp⟩
 |cons n l ih=>
  intro o h
  obtain⟨q1,q2⟩:=ih (insL n o) (Q9i n o h)
  refine⟨q1,fun x=> ?_⟩
  rw[K16,q2,Qae,Kd]
  constructor
  ·rintro((h|h)|h)
   ·exact .inr (.inl h)
   ·exact .inl h
   ·exact .inr (.inr h)
  ·rintro(h|h|h)
   ·exact .inl (.inr h)
   ·exact .inl (.inl h)
   ·exact .inr h
theorem Qk(l:List Int):Q10 (Qs l):=(Q82 l [] List.Pairwise.nil).1
theorem Qp(l:List Int):∀x,x∈Qs l↔x∈l:=by
 intro x
 rw[Qs,(Q82 l [] List.Pairwise.nil).2]
 simp
theorem Q40(a:List Int)(h:Q10 a)(n:Nat)(hn:∀x∈a,0≤x∧x<(n:Int))(q:Nat→Bool)(hq:∀i<n,q i=decide ((i:Int)∈a)):a=((List.range n).filter q).map Int.ofNat:=by
 refine Q36 _ _ h ?_ (fun x=> ?_)
 ·rw[Q10,List.pairwise_map]
  refine List.Pairwise.imp (fun{a b} (hab:a<b)=> ?_) (List.Pairwise.filter q List.pairwise_lt_range)
  show(a:Int)<(b:Int)
  omega
 ·rw[Kv]
  constructor
  ·intro hx
   have:=hn x hx
   refine⟨x.toNat,?_,by simp;omega⟩
   rw[K1d,K1y]
   refine⟨by omega,?_⟩
   rw[hq _ (by omega),decide_eq_true_eq,K1p (by omega)]
   exact hx
  ·rintro⟨i,hi,rfl⟩
   rw[K1d,K1y]at hi
   rw[hq _ hi.1,decide_eq_true_eq]at hi
   exact hi.2
theorem Q1d{a:List Int}(h:Q10 a){n:Nat}(hn:∀x∈a,0≤x∧x<(n:Int)):a.length≤n:=by
 rw[Q40 a h n hn (fun i=>decide ((i:Int)∈a)) (fun _ _=>rfl),Ki]
 have:=K1m (fun i:Nat=>decide ((i:Int)∈a)) (List.range n)
 simpa using this
def Q2g(n:Int)(l:List Int):Nat:=(l.takeWhile fun x=>decide (x<n)).length
theorem Qfv(n:Int)(l:List Int):Q2g n l≤l.length:=by
 unfold Q2g
 exact(List.takeWhile_sublist _).length_le
theorem Qgo(n:Int)(l:List Int):insL n l=if Q2g n l<l.length∧l.getD (Q2g n l) 0=n then l else l.take (Q2g n l)++n::l.drop (Q2g n l):=by
 induction l with
 |nil=>rfl
 |cons x l ih=>
  unfold insL
  by_cases h:x<n
  ·have e:Q2g n (x::l)=Q2g n l+1:=by simp[Q2g,h]
   rw[if_pos h,ih,e]
   by_cases c:Q2g n l<l.length∧l.getD (Q2g n l) 0=n
   ·rw[if_pos c,if_pos ⟨by simp;omega,by simpa using c.2⟩]
   ·rw[if_neg c,if_neg (fun hh=>c ⟨by have:=hh.1;simp at this;omega,by simpa using hh.2⟩)]
    rfl
  ·have e:Q2g n (x::l)=0:=by simp[Q2g,h]
   rw[if_neg h,e]
   by_cases c:x=n
   ·rw[if_pos c,if_pos ⟨by simp,by simpa using c⟩]
   ·rw[if_neg c,if_neg (fun hh=>c (by simpa using hh.2))]
    rfl
theorem Qbz(n:Int)(l:List Int)(d:Nat):∀i:Nat,i+d=l.length→(i<l.length∧l.getD i 0<n→Q2g n (l.drop i)=Q2g n (l.drop (i+1))+1)∧(¬(i<l.length∧l.getD i 0<n)→Q2g n (l.drop i)=0):=by
 intro i hi
 constructor
 ·rintro⟨h1,h2⟩
  have e:l.getD i 0=l[i]:=by simp[K1,h1]
  rw[e]at h2
  rw[K2 h1]
  unfold Q2g
  rw[List.takeWhile_cons,if_pos (by simpa using h2),Kp]
 ·intro h
  by_cases h1:i<l.length
  ·have e:l.getD i 0=l[i]:=by simp[K1,h1]
   have h2:¬l[i]<n:=fun hh=>h ⟨h1,by rw[e];exact hh⟩
   rw[K2 h1]
   unfold Q2g
   rw[List.takeWhile_cons,if_neg (by simpa using h2)]
   rfl
  ·rw[K8 (by omega)]
   rfl
theorem Qf6(b:Bool)(l:List Int)(n:Int)(hl:l.length≤1048576)(d:Nat):∀i:Nat,i+d=l.length→F84 (b,l) n (i:Int)=some ((i+Q2g n (l.drop i):Nat):Int):=by
 induction d with
 |zero=>
  intro i hi
  rw[F84E,gF (by simp only;omega),K8 (by omega)]
  rfl
 |succ d ih=>
  intro i hi
  obtain⟨h1,h2⟩:=Qbz n l (d+1) i hi
  rw[F84E,gT (by simp only;omega),gT (by omega),gT (by simp only;omega),Qj,up1 i (by omega),J1]
  by_cases c:l.getD i 0<n
  ·rw[gT c,ih (i+1) (by omega),h1 ⟨by omega,c⟩]
   congr 2
   omega
  ·rw[gF c,h2 (fun h=>c h.2)]
   rfl
theorem Q11(n:Int)(l:List Int):(insL n l).length ≤l.length+1:=by
 induction l with
 |nil=>simp[insL]
 |cons x l ih=>
  unfold insL
  split
  ·simp only[Kp];omega
  ·split<;>simp
theorem Qho(b:Bool)(l:List Int)(n:Int)(hl:l.length≤1000000):∃f,Ft (b,l) n=some (f,insL n l)∧(f=true→b=true∧l≠[]):=by
 have hlim:=J5
 have h:=Qf6 b l n (by omega) l.length 0 (by omega)
 rw[Kf,K1k]at h
 have h':F84 (b,l) n 0=_:=h
 have hk:=Qfv n l
 rw[FtE,h',J0,Qgo]
 generalize Q2g n l=k at hk
 have hfin:∀(x:Option (Bool×List Int)),x=(bif decide (0≤(k:Int))then
   bif decide ((k:Int)≤((b,l).2.length :Int))then
   bif decide (([]:List Int).length +(((b,l).2.take (Int.toNat (k:Int))).drop 0).length ≤lim)then
   bif decide (([]++(((b,l).2.take (Int.toNat (k:Int))).drop 0)).length +[n].length ≤lim)then
   bif decide (0≤(k:Int))then
   bif decide ((k:Int)≤((b,l).2.length :Int))then
   bif decide ((([]++(((b,l).2.take (Int.toNat (k:Int))).drop 0))++[n]).length +(((b,l).2.take (b,l).2.length).drop (Int.toNat (k:Int))).length ≤lim)then
   some (false,((([]++(((b,l).2.take (Int.toNat (k:Int))).drop 0))++[n])++(((b,l).2.take (b,l).2.length).drop (Int.toNat (k:Int)))))
   else none else none else none else none else none else none else none)→x=some (false,l.take k++n::l.drop k):=by
  rintro x rfl
  rw[gT (by omega),gT (by simp only;omega),gT (by simp;omega),gT (by simp;omega),gT (by omega),gT (by simp only;omega),gT (by simp;omega)]
  simp
 by_cases c:k<l.length
 ·rw[gT (by simp only;omega),gT (by omega),gT (by simp only;omega),Qj]
  by_cases c2:l.getD k 0=n
  ·rw[bT (by rw[beq_iff_eq];exact c2),if_pos ⟨c,c2⟩]
   exact⟨b,rfl,fun h=>⟨h,fun e=>by rw[e]at c;simp at c⟩⟩
  ·rw[bF (beqF c2),if_neg (fun h=>c2 h.2)]
   exact⟨false,hfin _ rfl,by simp⟩
 ·rw[gF (by simp only;omega),if_neg (fun h=>c h.1)]
  exact⟨false,hfin _ rfl,by simp⟩
theorem Q9q(b:Bool)(l:List Int)(n:Int)(hl:l.length≤1000000):∃f,Ft (b,l) n=some (f,insL n l):=by
 obtain⟨f,e,_⟩:=Qho b l n hl
 exact⟨f,e⟩
def clsL(v some_:List Int):List Int:=some_.map fun s=>v.getD s.toNat 0
theorem Q7d(v:DSight)(l:Bool×List Int)(hl:l.2.length≤100000)(hin:∀x∈l.2,0≤x∧x<(v.2.length:Int))(d:Nat):∀(i:Nat) (b:Bool) (o:List Int),i+d=l.2.length→o.length≤i→
  ∃b',F9f v (b,o) l (l.2.length:Int) (i:Int)=some (b',(clsL v.2 (l.2.drop i)).foldl (fun o n=>insL n o) o):=by
 induction d with
 |zero=>
  intro i b o hi ho
  rw[F9fE,gF (by omega),K8 (by omega)]
  exact⟨b,rfl⟩
 |succ d ih=>
  intro i b o hi ho
  have hlt:i<l.2.length:=by omega
  have hx:=hin _ (K3 hlt)
  obtain⟨f,e⟩:=Q9q b o (v.2.getD (Int.toNat l.2[i]) 0) (by omega)
  have hlen:=Q11 (v.2.getD (Int.toNat l.2[i]) 0) o
  obtain⟨b',g⟩:=ih (i+1) f (insL (v.2.getD (Int.toNat l.2[i]) 0) o) (by omega) (by omega)
  rw[F9fE,gT (by omega),gT (by omega),gT (by omega),J2 l.2 _ i hlt,gT hx.1,gT hx.2,e,J0,up1 i (by omega),J1,g,K2 hlt]
  exact⟨b',rfl⟩
theorem Qbh(v:DSight)(l:Bool×List Int)(hl:l.2.length≤100000)(hin:∀x∈l.2,0≤x∧x<(v.2.length:Int)):∃b,F2o v l=some (b,Qs (clsL v.2 l.2)):=by
 obtain⟨b,g⟩:=Q7d v l hl hin l.2.length 0 true [] (by omega) (by simp)
 have g':F9f v (true,[]) l (l.2.length:Int) 0=_:=g
 rw[F2oE,g',J0,Kf]
 exact⟨b,rfl⟩
theorem Q3v(v:List Int):∀x∈v,x<Q23 v:=by
 have key:∀(l:List Int) (m:Int),m≤l.foldl (fun m x=>if x≥m then x+1 else m) m∧∀x∈l,x<l.foldl (fun m x=>if x≥m then x+1 else m) m:=by
  intro l
  induction l with
  |nil=>intro m;exact⟨Int.le_refl _,by simp⟩
  |cons y l ih=>
   intro m
   rw[K16]
   obtain⟨h1,h2⟩:=ih (if y≥m then y+1 else m)
   have hy:m≤(if y≥m then y+1 else m)∧y<(if y≥m then y+1 else m):=by split<;>omega
   refine⟨by omega,fun x hx=> ?_⟩
   rcases Kd.1 hx with rfl|hx
   ·omega
   ·exact h2 x hx
 exact(key v 0).2
theorem Q72(v:List Int)(hv:∀x∈v,0≤x)(l:List Int)(hl:∀x∈l,0≤x∧x<(v.length:Int)):∀x∈clsL v l,0≤x∧x<Q23 v:=by
 intro x hx
 obtain⟨s,hs,rfl⟩:=Kv.1 hx
 have:=hl s hs
 have e:v.getD s.toNat 0=v[s.toNat]'(by omega):=by simp[K1,show s.toNat<v.length by omega]
 rw[e]
 have hm:=K3 (l:=v) (n:=s.toNat) (by omega)
 exact⟨hv _ hm,Q3v v _ hm⟩
theorem Qda(t:Bool×List Bool)(hl:t.2.length≤100000)(d:Nat):∀(i:Nat) (o:List Int),i+d=t.2.length→o.length≤i→
  F5u (false,o) t (t.2.length:Int) (i:Int)=some (false,o++((List.range' i d).filter fun j=>t.2.getD j false).map Int.ofNat):=by
 have hlim:=J5
 induction d with
 |zero=>
  intro i o hi ho
  rw[F5uE,gF (by omega)]
  simp
 |succ d ih=>
  intro i o hi ho
  have hlt:i<t.2.length:=by omega
  rw[F5uE,gT (by omega),gT (by omega),gT (by omega),Qj,up1 i (by omega),J1,J1,K19,K1j]
  cases t.2.getD i false with
  |true=>rw[cond_true,gT (by simp;omega),K24,ih (i+1) _ (by omega) (by simp;omega)];simp
  |false=>rw[cond_false,ih (i+1) o (by omega) (by omega)];simp
theorem Qhs(t:Bool×List Bool)(hl:t.2.length≤100000):F2e t=some (false,((List.range t.2.length).filter fun j=>t.2.getD j false).map Int.ofNat):=by
 have h:=Qda t hl t.2.length 0 [] (by omega) (by simp)
 have h':F5u (false,[]) t (t.2.length:Int) 0=_:=h
 rw[F2eE,h',J0,K1c]
 rfl
theorem Q7u(v:DSight)(hv:∀x∈v.2,0≤x)(m:Nat)(hm:Q23 v.2=m)(l:Bool×List Int)(hl:l.2.length≤100000)(hin:∀x∈l.2,0≤x∧x<(v.2.length:Int))(d:Nat):∀(i:Nat) (t:List Bool),i+d=l.2.length→t.length=m→
  ∃t',t'.length=m∧(∀j<m,t'.getD j false=(t.getD j false||decide ((j:Int)∈clsL v.2 (l.2.drop i))))∧F8t v (false,t) l (l.2.length:Int) (i:Int)=some (false,t'):=by
 induction d with
 |zero=>
  intro i t hi ht
  refine⟨t,ht,fun j _=> ?_,by rw[F8tE,gF (by omega)]⟩
  rw[K8 (by omega)]
  simp[clsL]
 |succ d ih=>
  intro i t hi ht
  have hlt:i<l.2.length:=by omega
  have hx:=hin _ (K3 hlt)
  have hc:=Q72 v.2 hv l.2 hin (v.2.getD (Int.toNat l.2[i]) 0) (Kv.2 ⟨_,K3 hlt,rfl⟩)
  obtain⟨t',h1,h2,h3⟩:=ih (i+1) (t.set (Int.toNat (v.2.getD (Int.toNat l.2[i]) 0)) true) (by omega) (by rw[Ko];exact ht)
  refine⟨t',h1,fun j hj=> ?_,?_⟩
  ·rw[h2 j hj,K2 hlt]
   have e:clsL v.2 (l.2[i]::l.2.drop (i+1))=v.2.getD (Int.toNat l.2[i]) 0::clsL v.2 (l.2.drop (i+1)):=rfl
   rw[e]
   by_cases cj:(j:Int)=v.2.getD (Int.toNat l.2[i]) 0
   ·have:Int.toNat (v.2.getD (Int.toNat l.2[i]) 0)=j:=by omega
    have h5:decide ((j:Int)∈v.2.getD (Int.toNat l.2[i]) 0::clsL v.2 (l.2.drop (i+1)))=true:=decide_eq_true (by rw[←cj];exact Kk)
    rw[h5,this,Q1s t j true false (by omega),Bool.true_or,Bool.or_true]
   ·have hne:Int.toNat (v.2.getD (Int.toNat l.2[i]) 0)≠j:=by omega
    have e2:(t.set (Int.toNat (v.2.getD (Int.toNat l.2[i]) 0)) true).getD j false=t.getD j false:=by
     rw[K1,List.getElem?_set_ne hne,K1]
    rw[e2]
    congr 1
    exact decide_eq_decide.mpr ⟨K9 _,fun h=>(Kd.1 h).resolve_left cj⟩
  ·rw[F8tE,gT (by omega),gT (by omega),gT (by omega),J2 l.2 _ i hlt,gT hx.1,gT hx.2,gT hc.1,gT (by simp only;omega),up1 i (by omega),J1,h3]
theorem Qch(v:DSight)(hvl:v.2.length≤1048576)(h0:0<v.2.length)(hin:∀x∈v.2,0≤x∧x≤32)(l:Bool×List Int)(hl:l.2.length≤100000)(hi:∀x∈l.2,0≤x∧x<(v.2.length:Int)):F29 v l=some (false,Qs (clsL v.2 l.2)):=by
 have hlim:=J5
 have hc:=Q1t v.2 hin
 obtain⟨m,hm⟩:=Ke hc.1
 have hv:∀x∈v.2,0≤x:=fun x hx=>(hin x hx).1
 obtain⟨t,h1,h2,h3⟩:=Q7u v hv m hm l hl hi l.2.length 0 (List.replicate m false) (by omega) (by simp)
 have h3':F8t v (false,List.replicate m false) l (l.2.length:Int) 0=_:=h3
 rw[F29E,Q2v v hvl h0 hin,J0,hm,gT (by omega),gT (by omega),gT (by omega),gT (by omega),K5,h3',J0,Qhs (false,t) (by simp only;omega),J0]
 congr 2
 have hcls:=Q72 v.2 hv l.2 hi
 symm
 rw[show((false,t):Bool×List Bool).2.length =m from h1]
 refine Q40 _ (Qk _) m (fun x hx=> ?_) _ (fun i hi2=> ?_)
 ·have:=hcls x ((Qp _ x).1 hx)
  omega
 ·rw[h2 i hi2,Kf]
  have e:(List.replicate m false).getD i false=false:=by simp[K1,K1z,hi2]
  rw[e,K27]
  exact decide_eq_decide.mpr (Qp _ _).symm
noncomputable def doL(p:DProgram)(s:List Int)(cs:List DChange):List Int:=cs.foldl (fun o d=>o.set d.1.toNat (valT p.1 s d.2.2)) s
def noL(w:Nat):List Int→Int
 |[]=>0
 |a::l=>a+2^w*noL w l
structure StOf (p:DProgram) (s:List Int):Prop where
 len:(s.length:Int)=p.2.1
 words:∀v∈s,W5 p.1 v
theorem Q5w{p:DProgram}(hp:Sml p)(no:Int):StOf p (Qd p no):=⟨Q2n hp no,Q2x hp no⟩
theorem Q6b{s:List Int}{p:DProgram}(cs:List DChange):∀o:List Int,(cs.foldl (fun o d=>o.set d.1.toNat (valT p.1 s d.2.2)) o).length =o.length:=by
 induction cs with
 |nil=>intro o;rfl
 |cons c cs ih=>intro o;rw[K16,ih,Ko]
theorem Qe4{p:DProgram}(hp:Sml p){s:List Int}(hs:StOf p s)(b:Bool)(t:Bool×List DNode)(hx:WfN t.2)(hk:Qe p.1 p.2.1 t.2=1):
  W5 p.1 (valT p.1 s t.2)∧F43 p.1 t (IntKind.i64.wrap ((t.2.length:Int)-1)) (b,s)=some (valT p.1 s t.2)∧Fq p.1 t (b,s)=some (valT p.1 s t.2):=by
 have h1:=hp.w1
 have h2:=hp.w2
 have hv4:=hp.v2
 have h3:=hp.v2
 have hl:=hs.len
 obtain⟨q1,_,q2,q3⟩:=Q4i p.1 (by omega) (b,s) (by simp only;omega) hs.words t hx (by rw[show(((b,s):Bool×List Int).2.length :Int)=p.2.1 from hl,hk];decide)
 exact⟨q1,q2,q3⟩
theorem Qcn{p:DProgram}(hp:Sml p){s:List Int}(hs:StOf p s)(cs:List DChange)(hw:∀d∈cs,WfCh d)(hc:∀d∈cs,0≤d.1∧d.1<p.2.1∧Qe p.1 p.2.1 d.2.2=1):StOf p (doL p s cs):=by
 refine⟨by rw[doL,Q6b];exact hs.len,?_⟩
 have key:∀(cs:List DChange),(∀d∈cs,WfCh d)→(∀d∈cs,0≤d.1∧d.1<p.2.1∧Qe p.1 p.2.1 d.2.2=1)→∀o:List Int,(∀v∈o,W5 p.1 v)→∀v∈cs.foldl (fun o d=>o.set d.1.toNat (valT p.1 s d.2.2)) o,W5 p.1 v:=by
  intro cs
  induction cs with
  |nil=>intro _ _ o ho;exact ho
  |cons c cs ih=>
   intro hw hc o ho
   rw[K16]
   refine ih (fun d hd=>hw d (K9 _ hd)) (fun d hd=>hc d (K9 _ hd)) _ (fun v hv=> ?_)
   rcases List.mem_or_eq_of_mem_set hv with hv|rfl
   ·exact ho v hv
   ·exact(Qe4 hp hs false c.2 (hw c Kk) (hc c Kk).2.2).1
 exact key cs hw hc s hs.words
theorem Qhd{p:DProgram}(hp:Sml p){s:List Int}(hs:StOf p s)(b:Bool)(cs:Bool×List DChange)(hl:cs.2.length≤1048576)(hw:∀d∈cs.2,WfCh d)(hc:∀d∈cs.2,0≤d.1∧d.1<p.2.1∧Qe p.1 p.2.1 d.2.2=1)(f:Bool):
  F9z (b,s) p (f,s) cs (cs.2.length:Int) 0=some (f,doL p s cs.2)∧F8a (b,s) p (f,s) cs (cs.2.length:Int) 0=some (f,doL p s cs.2):=by
 constructor
 ·exact Jy cs.2 (fun(o:List Int) d=>o.set d.1.toNat (valT p.1 s d.2.2)) (fun o=>(f,o)) (fun o i=>F9z (b,s) p (f,o) cs (cs.2.length:Int) i) (fun i o=>o.length=s.length) (fun i h o ho=>by
   have hd:=K3 h
   obtain⟨_,q2,_⟩:=Qe4 hp hs b (cs.2[i]).2 (hw _ hd) (hc _ hd).2.2
   have c1:=hc _ hd
   have:=hs.len
   refine⟨?_,by rw[Ko];exact ho⟩
   rw[F9zE,gT (by omega),gT (by omega),gT (by omega),J2 cs.2 _ i h,q2,J0,gT c1.1,gT (by simp only;omega),up1 i (by omega),J1]) (fun o ho=>by rw[F9zE,gF (by omega)]) s rfl
 ·exact Jy cs.2 (fun(o:List Int) d=>o.set d.1.toNat (valT p.1 s d.2.2)) (fun o=>(f,o)) (fun o i=>F8a (b,s) p (f,o) cs (cs.2.length:Int) i) (fun i o=>o.length=s.length) (fun i h o ho=>by
   have hd:=K3 h
   obtain⟨_,_,q3⟩:=Qe4 hp hs b (cs.2[i]).2 (hw _ hd) (hc _ hd).2.2
   have c1:=hc _ hd
   have:=hs.len
   refine⟨?_,by rw[Ko];exact ho⟩
   rw[F8aE,gT (by omega),gT (by omega),gT (by omega),J2 cs.2 _ i h,q3,J0,gT c1.1,gT (by simp only;omega),up1 i (by omega),J1]) (fun o ho=>by rw[F8aE,gF (by omega)]) s rfl
theorem l7Do{p:DProgram}(hp:Sml p)(hg:Q8 p=true)(hsm:Q7 p)(hw:WfP p){s:List Int}(hs:StOf p s)(b:Bool)(k:Nat)(hk:k<p.2.2.2.2.length):F37 p (b,s) (k:Int)=some (false,doL p s (p.2.2.2.2[k]).2.2):=by
 have hlim:=J5
 have hl:=hs.len
 have hv:=hp.v2
 have hm:=K3 hk
 have q:=(Qhd hp hs b (p.2.2.2.2[k]).2 (hsm.2.2 _ hm).2.1 (hw.2 _ hm).2 (Q6g hg _ hm).2 false).1
 rw[F37E,gT (by simp;omega),gT (by omega),gT (by omega),J2 p.2.2.2.2 _ k hk,Kt,q,J0]
theorem Qhb{p:DProgram}(hp:Sml p)(hg:Q8 p=true)(hsm:Q7 p)(hw:WfP p){s:List Int}(hs:StOf p s)(c:DCommand)(hm:c∈p.2.2.2.2):F33 p c (false,s)=some (false,doL p s c.2.2):=by
 have hlim:=J5
 have hl:=hs.len
 have hv:=hp.v2
 have q:=(Qhd hp hs false c.2 (hsm.2.2 _ hm).2.1 (hw.2 _ hm).2 (Q6g hg _ hm).2 false).2
 rw[F33E,F6yE,cond_false,gT (by simp;omega),Kt,J0,q,J0]
theorem Q8m(w:Nat):∀s:List Int,(∀v∈s,0≤v∧v<2^w)→0≤noL w s∧noL w s<2^(w*s.length):=by
 intro s
 induction s with
 |nil=>intro _;simp[noL]
 |cons a s ih=>
  intro h
  obtain⟨h1,h2⟩:=ih fun v hv=>h v (K9 _ hv)
  have ha:=h a Kk
  have hp:(0:Int)<2^w:=Int.pow_pos (by decide)
  have e:(2:Int)^(w*(a::s).length)=2^w*2^(w*s.length):=by rw[Kp,Nat.mul_succ,Nat.add_comm,Int.pow_add]
  have h3:2^w*noL w s≤2^w*(2^(w*s.length)-1):=Int.mul_le_mul_of_nonneg_left (by omega) (by omega)
  have h4:0≤2^w*noL w s:=Int.mul_nonneg (by omega) h1
  rw[Int.mul_sub,Int.mul_one]at h3
  rw[e,noL]
  omega
theorem Qff(w:Nat)(a:Int):∀s:List Int,noL w (s++[a])=noL w s+2^(w*s.length)*a:=by
 intro s
 induction s with
 |nil=>simp[noL]
 |cons b s ih=>
  rw[List.cons_append,noL,ih,noL,Kp,Nat.mul_succ,Nat.add_comm (w*s.length),Int.pow_add,Int.mul_add,Int.mul_assoc,Int.add_assoc]
theorem Qc7(a b:Nat)(ha:a<2^62)(hb:b<2^62):bOr .i64 (a:Int) (b:Int)=((a|||b:Nat):Int):=by
 unfold bOr
 show IntKind.i64.wrap (((BitVec.ofInt 64 (a:Int)|||BitVec.ofInt 64 (b:Int)).toNat :Nat):Int)=_
 rw[BitVec.toNat_or,BitVec.ofInt_natCast,BitVec.ofInt_natCast,BitVec.toNat_ofNat,BitVec.toNat_ofNat,K29 (by omega),K29 (by omega)]
 have:=Nat.or_lt_two_pow ha hb
 exact wr ⟨by omega,by simp at this;omega⟩
theorem Qaa(x:Int)(n:Nat)(hn:n<64)(h:0≤x*2^n∧x*2^n<9223372036854775808):bShl .i64 x (n:Int)=x*2^n:=by
 unfold bShl
 have e:min ((n:Int)).toNat (IntKind.i64.bits)=n:=by
  simp only[K5,IntKind.bits]
  omega
 rw[e,wr (by omega)]
theorem Q65{p:DProgram}(hp:Sml p){w:Nat}(hw:p.1=w){s:List Int}(hs:∀v∈s,W5 p.1 v):∀v∈s,0≤v∧v<2^w:=by
 intro v hv
 have h:=hs v hv
 have e:top p.1+1=((2^w:Nat):Int):=by rw[hw];exact Q4h
 have e2:((2:Int)^w)=((2^w:Nat):Int):=by simp
 exact⟨h.1,by rw[e2,←e];have:=h.2;omega⟩
theorem pow5{n:Nat}(h:n≤5):(2:Int)^n≤32:=by
 have:(2:Nat)^n≤2^5:=Nat.pow_le_pow_right (by decide) h
 have e2:((2:Int)^n)=((2^n:Nat):Int):=by simp
 omega
theorem Qaq(n:Nat):(1:Int)≤2^n:=by
 have:(0:Int)<2^n:=Int.pow_pos (by decide)
 omega
theorem l7No{p:DProgram}(hp:Sml p){s:List Int}(hs:StOf p s)(b:Bool):F3r p (b,s)=some (noL p.1.toNat s):=by
 obtain⟨w,hw⟩:=Ke (show 0≤p.1 by have:=hp.w1;omega)
 have hpw:=Q65 hp hw hs.words
 have hl:=hs.len
 have ha:w*s.length≤5:=Q6z (by have:=hp.a1;rw[hw,←hl]at this;exact this)
 have h1:=hp.w1
 have h2:=hp.w2
 have hv4:=hp.v2
 have key:∀(i:Nat),i≤s.length→F7d (b,s) p (noL w (s.drop i)) ((i:Int)-1)=some (noL w s):=by
  intro i
  induction i with
  |zero=>
   intro _
   rw[F7dE,gF (by omega),Kf]
  |succ i ih=>
   intro hi
   have hlt:i<s.length:=by omega
   have hq:=Q8m w (s.drop (i+1)) fun v hv=>hpw v (List.mem_of_mem_drop hv)
   have hq2:=Q8m w (s.drop i) fun v hv=>hpw v (List.mem_of_mem_drop hv)
   have hv:=hpw _ (K3 hlt)
   have hd:=K2 hlt
   have hpd:w*(s.drop i).length ≤5:=K12 (Nat.mul_le_mul_left w (by simp)) ha
   have hb:=pow5 hpd
   have e0:noL w (s.drop i)=s[i]+2^w*noL w (s.drop (i+1)):=by rw[hd,noL]
   have hm:noL w (s.drop (i+1))*2^w=2^w*noL w (s.drop (i+1)):=Int.mul_comm _ _
   have hnn:0≤2^w*noL w (s.drop (i+1)):=Int.mul_nonneg (by have:=Qaq w;omega) hq.1
   rw[F7dE,gT (by omega),hw,wru (by omega),gF (by omega),gT (by omega),gT (by simp only;omega),show((i+1:Nat):Int)-1=(i:Int) by omega,J2 s _ i hlt,Qaa _ w (by omega) (by omega),wr (n:=s[i]) (by omega),hm,Int.add_comm,←e0,wr (n:=noL w (s.drop i)) (by omega),wr (n:=(i:Int)-1) (by omega),J1,ih (by omega)]
 have:=key s.length (Ky _)
 rw[List.drop_length]at this
 have this':F7d (b,s) p 0 ((s.length:Int)-1)=some (noL w s):=this
 rw[F3rE,wr (by omega),←hl,this',J0,hw,K5]
theorem Qh0{p:DProgram}(hp:Sml p){s:List Int}(hs:StOf p s)(b:Bool):F3g p (b,s)=some (noL p.1.toNat s):=by
 obtain⟨w,hw⟩:=Ke (show 0≤p.1 by have:=hp.w1;omega)
 have hpw:=Q65 hp hw hs.words
 have hl:=hs.len
 have ha:w*s.length≤5:=Q6z (by have:=hp.a1;rw[hw,←hl]at this;exact this)
 have h1:=hp.w1
 have h2:=hp.w2
 have hv4:=hp.v2
 have key:∀(d i:Nat),i+d=s.length→F9x p (noL w (s.take i)) (b,s) (s.length:Int) (i:Int)=some (noL w s):=by
  intro d
  induction d with
  |zero=>
   intro i hi
   rw[F9xE,gF (by omega),K1i (by omega)]
  |succ d ih=>
   intro i hi
   have hlt:i<s.length:=by omega
   have hv:=hpw _ (K3 hlt)
   have hq:=Q8m w (s.take i) fun v hv=>hpw v (List.mem_of_mem_take hv)
   have hq2:=Q8m w (s.take (i+1)) fun v hv=>hpw v (List.mem_of_mem_take hv)
   have hti:(s.take i).length =i:=by simp;omega
   have hti2:(s.take (i+1)).length =i+1:=by simp;omega
   have e0:noL w (s.take (i+1))=noL w (s.take i)+2^(w*i)*s[i]:=by
    rw[K1b hlt,Qff,hti]
   have hwi:w*(i+1)≤5:=K12 (Nat.mul_le_mul_left w (by omega)) ha
   have hwi0:w*i≤5:=K12 (Nat.mul_le_mul_left w (by omega)) ha
   rw[hti2]at hq2
   rw[hti]at hq
   have hb:=pow5 hwi
   have hb2:=pow5 (show w≤5 by omega)
   have hnn:0≤2^(w*i)*s[i]:=Int.mul_nonneg (by have:=Qaq (w*i);omega) hv.1
   have hm:s[i]*2^(w*i)=2^(w*i)*s[i]:=Int.mul_comm _ _
   have e1:(w:Int)*(i:Int)=((w*i:Nat):Int):=by simp
   obtain⟨m,hm2⟩:=Ke hq.1
   obtain⟨n,hn2⟩:=Ke hv.1
   have hor:bOr .i64 (noL w (s.take i)) (2^(w*i)*s[i])=noL w (s.take (i+1)):=by
    rw[e0,hm2,hn2]
    have hmlt:m<2^(w*i):=by
     have e2:((2:Int)^(w*i))=((2^(w*i):Nat):Int):=by simp
     have:=hq.2
     rw[hm2,e2]at this
     omega
    have e3:(2:Int)^(w*i)*(n:Int)=((2^(w*i)*n:Nat):Int):=by simp
    rw[e3,Qc7 m _ (by omega) (by rw[hn2,e3]at hnn;have:=hq2.2;rw[e0,hm2,hn2,e3]at this;omega),Nat.or_comm,←Nat.two_pow_add_eq_or_of_lt hmlt]
    omega
   rw[F9xE,gT (by omega),gT (by omega),gT (by simp only;omega),hw,e1,wr (n:=((w*i:Nat):Int)) (by omega),gF (by omega),J2 s _ i hlt,wr (n:=s[i]) (by omega),Qaa _ (w*i) (by omega) (by omega),hm,hor,up1 i (by omega),J1,ih (i+1) (by omega)]
 have:=key s.length 0 (by omega)
 have this':F9x p 0 (b,s) (s.length:Int) 0=some (noL w s):=this
 rw[F3gE]
 rw[show(((b,s):Bool×List Int).2.length :Int)=(s.length:Int)from rfl,this',J0,hw,K5]
theorem Qfe{p:DProgram}(hp:Sml p){s:List Int}(hs:StOf p s):0≤noL p.1.toNat s∧noL p.1.toNat s<(Qi p:Int):=by
 obtain⟨w,hw⟩:=Ke (show 0≤p.1 by have:=hp.w1;omega)
 have h:=Q8m w s (Q65 hp hw hs.words)
 have e:w*s.length=(p.1*p.2.1).toNat :=by rw[hw,←hs.len,←Int.natCast_mul,K5]
 rw[hw,K5,Qi,←e]
 refine⟨h.1,?_⟩
 have e2:((2:Int)^(w*s.length))=((2^(w*s.length):Nat):Int):=by simp
 rw[←e2]
 exact h.2
theorem Q67(zs:List Int)(h:zs.Pairwise (· ≤ ·)):Q10 (Lib.compact zs)∧∀x,x∈Lib.compact zs↔x∈zs:=by
 have hget:∀i (hi:i<zs.length),zs.toArray[i]! =zs[i]:=fun i hi=>by simp[hi]
 have hle:∀i j (hj:j<zs.length) (hij:i≤j),zs[i]'(by omega)≤zs[j]:=by
  intro i j hj hij
  rcases Nat.lt_or_ge i j with h1|h1
  ·exact List.pairwise_iff_getElem.1 h i j (by omega) hj h1
  ·obtain rfl:i=j:=by omega
   exact Int.le_refl _
 refine⟨?_,fun x=>⟨J64 x,?_⟩⟩
 ·unfold Lib.compact Lib.compactUpTo
  rw[Q10,List.pairwise_map]
  refine List.Pairwise.imp_of_mem (fun{a b} ha hb hab=> ?_) (List.Pairwise.filter _ List.pairwise_lt_range)
  rw[K1d,K1y]at ha hb
  have h1:=hb.2
  simp only[Lib.keeps,decide_eq_true_eq]at h1
  rw[hget a ha.1,hget b hb.1]
  rcases h1 with h1|h1
  ·omega
  ·rw[hget b hb.1,hget (b-1) (by omega)]at h1
   have h2:=hle a (b-1) (by omega) (by omega)
   have h3:=hle (b-1) b hb.1 (by omega)
   omega
 ·intro hx
  obtain⟨i,hi,rfl⟩:=List.getElem_of_mem hx
  have key:∀i (hi:i<zs.length),zs[i]∈Lib.compact zs:=by
   intro i
   induction i with
   |zero=>
    intro hi
    unfold Lib.compact Lib.compactUpTo
    exact Kv.2 ⟨0,K1d.2 ⟨K1y.2 hi,by simp[Lib.keeps]⟩,hget 0 hi⟩
   |succ i ih=>
    intro hi
    by_cases c:zs[i+1]=zs[i]
    ·rw[c];exact ih (by omega)
    ·unfold Lib.compact Lib.compactUpTo
     refine Kv.2 ⟨i+1,K1d.2 ⟨K1y.2 hi,?_⟩,hget (i+1) hi⟩
     simp only[Lib.keeps,decide_eq_true_eq]
     right
     rw[hget (i+1) hi,Nat.add_sub_cancel,hget i (by omega)]
     exact c
  exact key i hi
theorem Q8q(l:List Int):Lib.compact (l.mergeSort fun a b=>decide (a≤b))=Qs l:=by
 have h:=List.pairwise_mergeSort (le:=fun a b:Int=>decide (a≤b)) (by intro a b c;simp;omega) (by intro a b;simp;omega) l
 obtain⟨h1,h2⟩:=Q67 (l.mergeSort fun a b=>decide (a≤b)) (h.imp (by simp))
 refine Q36 _ _ h1 (Qk l) fun x=> ?_
 rw[h2,Qp]
 exact(List.mergeSort_perm l _).mem_iff
theorem Q6t{α:Type}(l:List Int)(hl:l.length≤1048576)(f:Bool×List Int→Option α):((F4n (false,l)).bind fun r=>(F4o (r.1,r.2)).bind f)=f (false,Qs l):=by
 have hlim:=J5
 rw[F4nE,J1]
 have e:J9x (false,l)=some (false,l.mergeSort fun a b=>decide (a≤b)):=by
  unfold J9x
  rw[cond_false,gT (by simp only;omega)]
 rw[e,J0,F4oE,J1]
 have e2:J1z (false,l.mergeSort fun a b=>decide (a≤b))=some (false,Qs l):=by
  unfold J1z
  rw[cond_false,gT (by simp only[List.length_mergeSort];omega),Q8q]
 show(J1z (false,l.mergeSort fun a b=>decide (a≤b))).bind f=_
 rw[e2,J0]
theorem Q6i(l:List Int):∀o,(l.foldl (fun o n=>insL n o) o).length ≤o.length+l.length:=by
 induction l with
 |nil=>intro o;simp
 |cons a l ih=>
  intro o
  rw[K16,Kp]
  have h1:=ih (insL a o)
  have h2:=Q11 a o
  omega
theorem Q2w(l:List Int):(Qs l).length ≤l.length:=by
 have:=Q6i l []
 simpa[Qs]using this
noncomputable def goC(p:DProgram)(c:DCommand)(s:List Int):List Int:=if Qad p c.1.2 s=true then[noL p.1.toNat (doL p s c.2.2)]else[]
noncomputable def goL(p:DProgram)(no:Int):List Int:=p.2.2.2.2.flatMap fun c=>goC p c (Qd p no)
noncomputable def Q19(p:DProgram)(no:Int):List Int:=if goL p no=[]then[no]else Qs (goL p no)
structure Ok (p:DProgram):Prop where
 sml:Sml p
 good:Q8 p=true
 sm:Q7 p
 wf:WfP p
theorem Qh9{p:DProgram}(h:Q1f p=true)(hs:Q7 p)(hw:WfP p):Ok p:=⟨Qa9 h,(Q6j h).1,hs,hw⟩
theorem Ok.cmd{p:DProgram}(h:Ok p){c:DCommand}(hc:c∈p.2.2.2.2):WfN c.1.2∧Qe p.1 p.2.1 c.1.2≠0:=by
 refine⟨(h.wf.2 c hc).1,?_⟩
 rw[(Q6g h.good c hc).1]
 decide
theorem Ok.many{p:DProgram}(h:Ok p):1≤p.2.2.2.2.length∧p.2.2.2.2.length≤6:=by
 have hg:=h.good
 simp only[Q8,K7,decide_eq_true_eq]at hg
 exact hg.2.1
theorem Qhi{p:DProgram}(h:Ok p){c:DCommand}(hc:c∈p.2.2.2.2){s:List Int}(hs:StOf p s):∀x∈goC p c s,0≤x∧x<(Qi p:Int):=by
 intro x hx
 unfold goC at hx
 split at hx
 ·rw[Km]at hx
  rw[hx]
  exact Qfe h.sml (Qcn h.sml hs _ (h.wf.2 _ hc).2 (Q6g h.good _ hc).2)
 ·cases hx
theorem Qhj{p:DProgram}(h:Ok p)(no:Int):∀x∈goL p no,0≤x∧x<(Qi p:Int):=by
 intro x hx
 obtain⟨c,hc,hx⟩:=List.mem_flatMap.1 hx
 exact Qhi h hc (Q5w h.sml no) x hx
theorem Q53{p:DProgram}(h:Ok p){no:Int}(hn:0≤no∧no<(Qi p:Int)):∀x∈Q19 p no,0≤x∧x<(Qi p:Int):=by
 intro x hx
 unfold Q19 at hx
 split at hx
 ·rw[Km]at hx
  omega
 ·exact Qhj h no x ((Qp _ x).1 hx)
theorem Q8l(p:DProgram)(no:Int):Q10 (Q19 p no):=by
 unfold Q19
 split
 ·exact List.pairwise_singleton _ _
 ·exact Qk _
theorem Q1n{p:DProgram}(h:Ok p){no:Int}(hn:0≤no∧no<(Qi p:Int)):(Q19 p no).length ≤Qi p:=Q1d (Q8l p no) (Q53 h hn)
theorem Qb8(p:DProgram)(c:DCommand)(s:List Int):(goC p c s).length ≤1:=by
 unfold goC
 split<;>simp
theorem Qb9(p:DProgram)(no:Int)(cs:List DCommand):(cs.flatMap fun c=>goC p c (Qd p no)).length ≤cs.length:=by
 induction cs with
 |nil=>simp
 |cons a l ih=>
  have:=Qb8 p a (Qd p no)
  simp only[K17,Kg,Kp]
  omega
theorem Qdg{p:DProgram}(h:Ok p)(no:Int)(d:Nat):∀(i:Nat) (o:List Int),i+d=p.2.2.2.2.length→o.length≤i→
  F6o no p (false,Qd p no) (false,o) p.2.2.2 (p.2.2.2.2.length:Int) (i:Int)=some (false,o++(p.2.2.2.2.drop i).flatMap fun c=>goC p c (Qd p no)):=by
 have hlim:=J5
 have hmany:=h.many
 have hs:=Q5w h.sml no
 induction d with
 |zero=>
  intro i o hi ho
  rw[F6oE,gF (by omega),K8 (by omega)]
  simp
 |succ d ih=>
  intro i o hi ho
  have hlt:i<p.2.2.2.2.length:=by omega
  have hm:=K3 hlt
  obtain⟨c1,c2⟩:=h.cmd hm
  have e:=(Q52 h.sml (p.2.2.2.2[i]).1 c1 c2 false no).2
  rw[F6oE,gT (by omega),gT (by omega),gT (by omega),J2 p.2.2.2.2 _ i hlt,e,J0,K2 hlt,K17,up1 i (by omega),J1]
  cases hh:Q15 p (p.2.2.2.2[i]).1.2 no with
  |true=>
   have hg:goC p (p.2.2.2.2[i]) (Qd p no)=[noL p.1.toNat (doL p (Qd p no) (p.2.2.2.2[i]).2.2)]:=if_pos hh
   rw[cond_true,Qhb h.sml h.good h.sm h.wf hs _ hm,J0,Qh0 h.sml (Qcn h.sml hs _ (h.wf.2 _ hm).2 (Q6g h.good _ hm).2),J0,gT (by simp;omega),J1,K24,ih (i+1) _ (by omega) (by simp;omega),hg]
   simp
  |false=>
   have hg:goC p (p.2.2.2.2[i]) (Qd p no)=[]:=if_neg (by show¬Q15 _ _ _=true;rw[hh];simp)
   rw[cond_false,ih (i+1) o (by omega) (by omega),hg]
   simp
theorem Qhv{p:DProgram}(h:Ok p)(no:Int)(hn:0≤no∧no<1000):F2h p no=some (false,Q19 p no):=by
 have hmany:=h.many
 have q:=Qdg h no p.2.2.2.2.length 0 [] (by omega) (by simp)
 have q':F6o no p (false,Qd p no) (false,[]) p.2.2.2 (p.2.2.2.2.length:Int) 0=_:=q
 have hlen:=Qb9 p no p.2.2.2.2
 rw[F2hE,Qa1 h.sml no hn,J0,q',J0,Kt,Kf]
 show(bif (((goL p no).length :Int)==0)then some (false,[no])else(F4n (false,goL p no)).bind fun r2=>(F4o (r2.1,r2.2)).bind fun r3=>some (r3.1,r3.2))=_
 unfold Q19
 by_cases c:goL p no=[]
 ·rw[if_pos c,bT (by rw[c];rfl)]
 ·have:0<(goL p no).length :=List.length_pos_iff.2 c
  rw[if_neg c,bF (beqF (by omega)),Q6t _ (by show(goL p no).length ≤_;have:(goL p no).length ≤p.2.2.2.2.length:=hlen;omega)]
theorem Q8d{p:DProgram}(h:Ok p)(no:Int)(d:Nat):∀(i:Nat) (b:Bool) (o:List Int),i+d=p.2.2.2.2.length→o.length≤i→
  ∃b',F5g (false,Qd p no) p (b,o) p.2.2.2 (p.2.2.2.2.length:Int) (i:Int)=some (b',o++((List.range' i d).filter fun k=>Q15 p (p.2.2.2.2.getD k ((true,[]),(true,[]))).1.2 no).map Int.ofNat):=by
 have hlim:=J5
 have hmany:=h.many
 induction d with
 |zero=>
  intro i b o hi ho
  rw[F5gE,gF (by omega)]
  exact⟨b,by simp⟩
 |succ d ih=>
  intro i b o hi ho
  have hlt:i<p.2.2.2.2.length:=by omega
  have hm:=K3 hlt
  obtain⟨c1,c2⟩:=h.cmd hm
  have e:=(Q52 h.sml (p.2.2.2.2[i]).1 c1 c2 false no).1
  have e2:p.2.2.2.2.getD i ((true,[]),(true,[]))=p.2.2.2.2[i]:=by simp[K1,hlt]
  rw[F5gE,gT (by omega),gT (by omega),gT (by omega),Qj,e2,e,J0,K19,K1j,e2,up1 i (by omega),J1,J1]
  cases hh:Q15 p (p.2.2.2.2[i]).1.2 no with
  |true=>
   obtain⟨b',g⟩:=ih (i+1) (b&&false) (o++[(i:Int)]) (by omega) (by simp;omega)
   rw[cond_true,gT (by simp;omega),g]
   exact⟨b',by simp⟩
  |false=>
   obtain⟨b',g⟩:=ih (i+1) b o (by omega) (by omega)
   rw[cond_false,g]
   exact⟨b',by simp⟩
noncomputable def Q5b(p:DProgram)(no:Int):List Int:=((List.range p.2.2.2.2.length).filter fun k=>Q15 p (p.2.2.2.2.getD k ((true,[]),(true,[]))).1.2 no).map Int.ofNat
theorem Qd2{p:DProgram}(h:Ok p)(no:Int):∃b,F2i p (false,Qd p no)=some (b,Q5b p no):=by
 obtain⟨b,q⟩:=Q8d h no p.2.2.2.2.length 0 true [] (by omega) (by simp)
 have q':F5g (false,Qd p no) p (true,[]) p.2.2.2 (p.2.2.2.2.length:Int) 0=_:=q
 rw[F2iE,q',J0,Q5b,K1c]
 exact⟨b,rfl⟩
theorem Qey(p:DProgram)(no:Int):goL p no=(Q5b p no).map fun k=>noL p.1.toNat (doL p (Qd p no) (p.2.2.2.2.getD k.toNat ((true,[]),(true,[]))).2.2):=by
 have key:∀(l:List DCommand) (n:Nat) (h:p.2.2.2.2.drop n=l),(l.flatMap fun c=>goC p c (Qd p no))=(((List.range' n l.length).filter fun k=>Q15 p (p.2.2.2.2.getD k ((true,[]),(true,[]))).1.2 no).map Int.ofNat).map fun k=>noL p.1.toNat (doL p (Qd p no) (p.2.2.2.2.getD k.toNat ((true,[]),(true,[]))).2.2):=by
  intro l
  induction l with
  |nil=>intro n _;simp
  |cons c l ih=>
   intro n hd
   have hlt:n<p.2.2.2.2.length:=by
    rcases Nat.lt_or_ge n p.2.2.2.2.length with h|h
    ·exact h
    ·rw[K8 h]at hd;cases hd
   rw[K2 hlt]at hd
   obtain⟨h1,h2⟩:=List.cons.inj hd
   have e:p.2.2.2.2.getD n ((true,[]),(true,[]))=c:=by rw[←h1];simp[K1,hlt]
   rw[K17,ih (n+1) h2,Kp,K19,K1j,e]
   cases hh:Q15 p c.1.2 no with
   |true=>
    have hg:goC p c (Qd p no)=[noL p.1.toNat (doL p (Qd p no) c.2.2)]:=if_pos hh
    rw[hg,if_pos rfl,K14,K14]
    simp only[Int.ofNat_eq_natCast,K5,e]
    rfl
   |false=>
    have hg:goC p c (Qd p no)=[]:=if_neg (by show¬Q15 _ _ _=true;rw[hh];simp)
    rw[hg,if_neg (by simp)]
    rfl
 have:=key p.2.2.2.2 0 (by simp)
 rw[Q5b,K1c]
 exact this
theorem Qel{p:DProgram}(no:Int):∀x∈Q5b p no,∃k:Nat,x=(k:Int)∧k<p.2.2.2.2.length:=by
 intro x hx
 obtain⟨k,hk,rfl⟩:=Kv.1 hx
 exact⟨k,rfl,K1y.1 (K1d.1 hk).1⟩
theorem Qd4{p:DProgram}(h:Ok p)(no:Int)(l:Bool×List Int)(hl:l.2.length≤1000)(hin:∀x∈l.2,∃k:Nat,x=(k:Int)∧k<p.2.2.2.2.length)(d:Nat):∀(i:Nat) (b:Bool) (o:List Int),i+d=l.2.length→o.length≤i→
  ∃b',F9d no p (false,Qd p no) (b,o) l (l.2.length:Int) (i:Int)=some (b',((l.2.drop i).map fun k=>noL p.1.toNat (doL p (Qd p no) (p.2.2.2.2.getD k.toNat ((true,[]),(true,[]))).2.2)).foldl (fun o n=>insL n o) o):=by
 have hs:=Q5w h.sml no
 induction d with
 |zero=>
  intro i b o hi ho
  rw[F9dE,gF (by omega),K8 (by omega)]
  exact⟨b,rfl⟩
 |succ d ih=>
  intro i b o hi ho
  have hlt:i<l.2.length:=by omega
  obtain⟨k,hk1,hk⟩:=hin _ (K3 hlt)
  have hm:=K3 hk
  have e2:p.2.2.2.2.getD k ((true,[]),(true,[]))=p.2.2.2.2[k]:=by simp[K1,hk]
  obtain⟨f,e3⟩:=Q9q b o (noL p.1.toNat (doL p (Qd p no) (p.2.2.2.2[k]).2.2)) (by omega)
  have hlen:=Q11 (noL p.1.toNat (doL p (Qd p no) (p.2.2.2.2[k]).2.2)) o
  obtain⟨b',g⟩:=ih (i+1) f _ (by omega) (by omega:(insL (noL p.1.toNat (doL p (Qd p no) (p.2.2.2.2[k]).2.2)) o).length ≤i+1)
  rw[F9dE,gT (by omega),gT (by omega),gT (by omega),J2 l.2 _ i hlt,hk1,l7Do h.sml h.good h.sm h.wf hs false k hk,J0,l7No h.sml (Qcn h.sml hs _ (h.wf.2 _ hm).2 (Q6g h.good _ hm).2),J0,e3,J0,up1 i (by omega),J1,g,K2 hlt,K14,K16,hk1,K5,e2]
  exact⟨b',rfl⟩
theorem Qdq(l:List Int):Qs l=[]↔l=[]:=by
 constructor
 ·intro h
  cases l with
  |nil=>rfl
  |cons a l=>
   have:=(Qp (a::l) a).2 Kk
   rw[h]at this
   cases this
 ·rintro rfl;rfl
theorem Qhr{p:DProgram}(h:Ok p)(no:Int)(hn:0≤no∧no<1000):∃b,F31 p no=some (b,Q19 p no):=by
 obtain⟨b1,e1⟩:=Qd2 h no
 have hmany:=h.many
 have hle:(Q5b p no).length ≤6:=by
  rw[Q5b,Ki]
  refine K12 (K1m _ _) ?_
  simpa using hmany.2
 obtain⟨b,q⟩:=Qd4 h no (b1,Q5b p no) (by simp only;omega) (Qel no) (Q5b p no).length 0 true [] (by simp) (by simp)
 have q':F9d no p (false,Qd p no) (true,[]) (b1,Q5b p no) ((Q5b p no).length :Int) 0=_:=q
 rw[F31E,l7Of h.sml no hn,J0,e1,J0]
 simp only[q',J0,Kf]
 rw[←Qey]
 show∃b_1,(bif (((Qs (goL p no)).length :Int)==0)then some (false,[no])else some (b,Qs (goL p no)))=some (b_1,Q19 p no)
 unfold Q19
 by_cases c:goL p no=[]
 ·rw[if_pos c,bT (by rw[c];rfl)]
  exact⟨false,rfl⟩
 ·have h0:Qs (goL p no)≠[]:=fun hh=>c ((Qdq _).1 hh)
  have:0<(Qs (goL p no)).length :=List.length_pos_iff.2 h0
  rw[if_neg c,bF (beqF (by omega))]
  exact⟨b,rfl⟩
theorem Q99{q:Int→Bool}{f:Bool}(n:Nat)(P:Int→Prop)(L:Bool×List Int→Int→Int→Option ((Bool×List Int)×Int))
  (hs:∀(s:List Int) (i j:Nat) (_:i≤j) (h:j<s.length),s.length=n→(∀x∈s,P x)→L (f,s) (i:Int) (j:Int)=bif !q s[j]then L (f,s.set i s[j]) ((i+1:Nat):Int) ((j+1:Nat):Int)else L (f,s) (i:Int) ((j+1:Nat):Int))
  (he:∀(s:List Int) (i:Nat),s.length=n→L (f,s) (i:Int) (s.length:Int)=some ((f,s),(i:Int)))(d:Nat):
  ∀(i j:Nat) (s:List Int),i≤j→j+d=s.length→s.length=n→(∀x∈s,P x)→∃(s':List Int) (i':Nat),L (f,s) (i:Int) (j:Int)=some ((f,s'),(i':Int))∧s'.length=n∧i'≤n∧s'.take i'=s.take i++(s.drop j).filter fun x=> !q x:=by
 induction d with
 |zero=>
  intro i j s hij hj hn hP
  obtain rfl:j=s.length:=by omega
  exact⟨s,i,he s i hn,hn,by omega,by simp⟩
 |succ d ih=>
  intro i j s hij hj hn hP
  have hlt:j<s.length:=by omega
  rw[hs s i j hij hlt hn hP,K2 hlt,K1j]
  cases hq:q s[j]with
  |true=>
   obtain⟨s',i',h1,h2,h3,h4⟩:=ih i (j+1) s (by omega) (by omega) hn hP
   exact⟨s',i',by rw[K6,cond_false,h1],h2,h3,by rw[h4,if_neg (by simp)]⟩
  |false=>
   obtain⟨s',i',h1,h2,h3,h4⟩:=ih (i+1) (j+1) (s.set i s[j]) (by omega) (by rw[Ko];omega) (by rw[Ko];exact hn) (fun x hx=>by
    rcases List.mem_or_eq_of_mem_set hx with hx|rfl
    ·exact hP x hx
    ·exact hP _ (K3 hlt))
   refine⟨s',i',by rw[Bool.not_false,cond_true,h1],h2,h3,?_⟩
   rw[h4,if_pos (by simp),List.drop_set_of_lt (by omega)]
   have e:(s.set i s[j]).take (i+1)=s.take i++[s[j]]:=by
    rw[K1b (by rw[Ko];omega),List.getElem_set_self,List.take_set_of_le (Ky _)]
   rw[e,Kj]
   rfl
theorem Qcm{l:List Int}{q:Int→Bool}{f:Bool}(P:Int→Prop)(L:Bool×List Int→Int→Int→Option ((Bool×List Int)×Int))(hl:l.length≤1048576)(hP:∀x∈l,P x)
  (hs:∀(s:List Int) (i j:Nat) (_:i≤j) (h:j<s.length),s.length=l.length→(∀x∈s,P x)→L (f,s) (i:Int) (j:Int)=bif !q s[j]then L (f,s.set i s[j]) ((i+1:Nat):Int) ((j+1:Nat):Int)else L (f,s) (i:Int) ((j+1:Nat):Int))
  (he:∀(s:List Int) (i:Nat),s.length=l.length→L (f,s) (i:Int) (s.length:Int)=some ((f,s),(i:Int)))
  {X:Option (Int ⊕ Unit)}(hX:X=some (bif l.any q then .inl (l.findIdx q:Int)else .inr ())):
  ((X.bind fun r=>match r with
   | .inl y=>some y
   | .inr z=>some (-1)).bind fun r=>
   bif (r==(-1))then some (f,l)else(L (f,l) r (IntKind.i64.wrap (r+1))).bind fun r1=>
    bif decide (0≤r1.2)then bif decide (r1.2≤(r1.1.2.length:Int))then bif decide (0≤r1.2)then
    bif decide (r1.2≤((r1.1.2.take (Int.toNat r1.2)++(List.replicate (r1.1.2.length-(Int.toNat r1.2)) (0:Int)++r1.1.2.drop r1.1.2.length)).length :Int))then
    some (r1.1.1,(((r1.1.2.take (Int.toNat r1.2)++(List.replicate (r1.1.2.length-(Int.toNat r1.2)) (0:Int)++r1.1.2.drop r1.1.2.length)).take (Int.toNat r1.2)).drop 0))
    else none else none else none else none)=some (f,l.filter fun x=> !q x):=by
 rw[hX]
 cases ha:l.any q with
 |false=>
  have e:l.filter (fun x=> !q x)=l:=List.filter_eq_self.2 fun x hx=>by
   have:=List.any_eq_false.1 ha x hx
   simpa using this
  rw[e]
  rfl
 |true=>
  have hk:l.findIdx q<l.length:=List.findIdx_lt_length.2 (Kw.1 ha)
  generalize hkk:l.findIdx q=k at hk
  have hqk:q l[k]=true:=by
   subst hkk
   exact List.findIdx_getElem (w:=hk)
  have hlt:∀j (hj:j<k),q (l[j]'(by omega))=false:=by
   intro j hj
   have:=List.not_of_lt_findIdx (p:=q) (xs:=l) (i:=j) (by omega)
   simpa using this
  obtain⟨s',i',h1,h2,h3,h4⟩:=Q99 l.length P L hs he (l.length-(k+1)) k (k+1) l (by omega) (by omega) rfl hP
  have e:l.filter (fun x=> !q x)=s'.take i':=by
   rw[h4]
   have e1:l=l.take k++(l[k]::l.drop (k+1)):=by rw[←K2 hk,List.take_append_drop]
   have e2:(l.take k).filter (fun x=> !q x)=l.take k:=List.filter_eq_self.2 fun x hx=>by
    obtain⟨j,hj,rfl⟩:=List.getElem_of_mem hx
    have hj':j<k:=by simp at hj;omega
    rw[List.getElem_take,hlt j hj']
    rfl
   conv=>lhs;rw[e1]
   rw[List.filter_append,e2,K1j,if_neg (by simp[hqk])]
  rw[cond_true,J0,J0,bF (beqF (by omega)),up1 k (by omega),h1,J0]
  simp only[K5]
  rw[gT (by omega),gT (by omega),gT (by omega),gT (by simp;omega),e]
  congr 2
  rw[Kf,List.take_append_of_le_length (by rw[K1u];omega),List.take_take,Nat.min_self]
theorem Qa0{a b:List Int}(h:∀x,x∈a↔x∈b):Qs a=Qs b:=
 Q36 _ _ (Qk a) (Qk b) fun x=>by rw[Qp,Qp];exact h x
theorem Q48(l:List Int)(hl:l.length≤1048576):F4m (false,l)=some (false,l):=by
 have hlim:=J5
 rw[F4mE,cond_false,gT (by simp;omega),Kt]
theorem Qbj(p:DProgram)(t10:Bool×List Int)(t11 t12:Int)(r:Bool×List Int)(hr:r.2.length≤1000)(d:Nat):∀(i:Nat) (b:Bool) (o:List Int),i+d=r.2.length→o.length+d≤1000000→
  ∃b',Fa1 p (b,o) t10 t11 t12 r (r.2.length:Int) (i:Int)=some (b',(r.2.drop i).foldl (fun o n=>insL n o) o):=by
 induction d with
 |zero=>
  intro i b o hi ho
  rw[Fa1E,gF (by omega),K8 (by omega)]
  exact⟨b,rfl⟩
 |succ d ih=>
  intro i b o hi ho
  have hlt:i<r.2.length:=by omega
  obtain⟨f,e⟩:=Q9q b o (r.2[i]) (by omega)
  have hlen:=Q11 (r.2[i]) o
  obtain⟨b',g⟩:=ih (i+1) f (insL (r.2[i]) o) (by omega) (by omega)
  rw[Fa1E,gT (by omega),gT (by omega),gT (by omega),J2 r.2 _ i hlt,e,J0,up1 i (by omega),J1,g,K2 hlt]
  exact⟨b',rfl⟩
theorem Qbi{p:DProgram}(h:Ok p)(l:Bool×List Int)(hl:l.2.length≤10000)(hn:∀x∈l.2,0≤x∧x<(Qi p:Int))(d:Nat):∀(i:Nat) (b:Bool) (o:List Int),i+d=l.2.length→o.length≤32*i→
  ∃b',F95 p (b,o) l (l.2.length:Int) (i:Int)=some (b',((l.2.drop i).flatMap (Q19 p)).foldl (fun o n=>insL n o) o):=by
 have hm:=Q25 h.sml
 induction d with
 |zero=>
  intro i b o hi ho
  rw[F95E,gF (by omega),K8 (by omega)]
  exact⟨b,rfl⟩
 |succ d ih=>
  intro i b o hi ho
  have hlt:i<l.2.length:=by omega
  have hx:=hn _ (K3 hlt)
  have hlen:=Q1n h hx
  obtain⟨f,e⟩:=Qhr h (l.2[i]) (by omega)
  obtain⟨b2,e2⟩:=Qbj p l (l.2.length:Int) (i:Int) (f,Q19 p (l.2[i])) (by simp only;omega) (Q19 p (l.2[i])).length 0 b o (by simp) (by omega)
  have e2':Fa1 p (b,o) l (l.2.length:Int) (i:Int) (f,Q19 p (l.2[i])) ((Q19 p (l.2[i])).length :Int) 0=_:=e2
  have hlen2:=Q6i (Q19 p (l.2[i])) o
  obtain⟨b',g⟩:=ih (i+1) b2 ((Q19 p (l.2[i])).foldl (fun o n=>insL n o) o) (by omega) (by omega)
  rw[F95E,gT (by omega),gT (by omega),gT (by omega),J2 l.2 _ i hlt,e,J0]
  simp only[e2',Kf,J0]
  rw[up1 i (by omega),J1,g,K2 hlt,K17,List.foldl_append]
  exact⟨b',rfl⟩
theorem Qgu{p:DProgram}(h:Ok p)(l:Bool×List Int)(hl:l.2.length≤10000)(hn:∀x∈l.2,0≤x∧x<(Qi p:Int)):∃b,F1g p l=some (b,Qs (l.2.flatMap (Q19 p))):=by
 obtain⟨b,q⟩:=Qbi h l hl hn l.2.length 0 true [] (by omega) (by simp)
 have q':F95 p (true,[]) l (l.2.length:Int) 0=_:=q
 rw[F1gE,q',J0,Kf]
 exact⟨b,rfl⟩
theorem Q2u{p:DProgram}(h:Ok p)(l:List Int)(hn:∀x∈l,0≤x∧x<(Qi p:Int)):∀x∈l.flatMap (Q19 p),0≤x∧x<(Qi p:Int):=by
 intro x hx
 obtain⟨no,hno,hx⟩:=List.mem_flatMap.1 hx
 exact Q53 h (hn no hno) x hx
theorem Q3y{p:DProgram}(h:Ok p)(l:List Int)(hn:∀x∈l,0≤x∧x<(Qi p:Int)):(l.flatMap (Q19 p)).length ≤32*l.length:=by
 have hm:=Q25 h.sml
 induction l with
 |nil=>simp
 |cons a l ih=>
  have h1:=Q1n h (hn a Kk)
  have h2:=ih fun x hx=>hn x (K9 _ hx)
  simp only[K17,Kg,Kp]
  omega
structure Sees (p:DProgram) (v:List Int):Prop where
 ok:Ok p
 len:v.length=Qi p
 inn:∀x∈v,0≤x∧x≤32
theorem Qgb{p:DProgram}{v:List Int}(h:Qn p v=true)(hs:Q7 p)(hw:WfP p):Sees p v:=by
 obtain⟨_,h2,h3⟩:=Q85 h
 simp only[Qn,K7]at h
 exact⟨Qh9 h.1 hs hw,h2,h3⟩
theorem Sees.manyV{p:DProgram}{v:List Int}(h:Sees p v):2≤v.length∧v.length≤32:=by
 have:=Q25 h.ok.sml
 rw[h.len]
 exact this
theorem Sees.clsP{p:DProgram}{v:List Int}(h:Sees p v)(l:Bool×List Int)(hl:l.2.length≤100000)(hi:∀x∈l.2,0≤x∧x<(Qi p:Int))(f:Bool):F29 (f,v) l=some (false,Qs (clsL v l.2)):=by
 have hm:=h.manyV
 have hi':∀x∈l.2,0≤x∧x<(v.length:Int):=fun x hx=>by rw[h.len];exact hi x hx
 exact Qch (f,v) (by simp only;omega) (by simp only;omega) h.inn l hl hi'
theorem Sees.clsS{p:DProgram}{v:List Int}(h:Sees p v)(l:Bool×List Int)(hl:l.2.length≤100000)(hi:∀x∈l.2,0≤x∧x<(Qi p:Int))(f:Bool):∃b,F2o (f,v) l=some (b,Qs (clsL v l.2)):=by
 have hi':∀x∈l.2,0≤x∧x<(v.length:Int):=fun x hx=>by rw[h.len];exact hi x hx
 exact Qbh (f,v) l hl hi'
def inL(v:List Int)(c:Int):List Int:=((List.range v.length).filter fun i=>v.getD i 0==c).map Int.ofNat
theorem Q2k{v:List Int}{c x:Int}:x∈inL v c↔(0≤x∧x<(v.length:Int))∧v.getD x.toNat 0=c:=by
 simp only[inL,Kv,K1d,K1y,beq_iff_eq]
 constructor
 ·rintro⟨i,⟨h1,h2⟩,rfl⟩
  exact⟨⟨Int.natCast_nonneg _,by simp;omega⟩,by simpa using h2⟩
 ·rintro⟨⟨h1,h2⟩,h3⟩
  exact⟨x.toNat,⟨by omega,h3⟩,K1p h1⟩
theorem Q4d(v:List Int)(c:Int):(inL v c).length ≤v.length:=by
 rw[inL,Ki]
 refine K12 (K1m _ _) ?_
 simp
theorem Qf4(v:DSight)(hv:v.2.length≤100000)(c:Int)(d:Nat):∀(i:Nat) (b:Bool) (o:List Int),i+d=v.2.length→o.length≤i→
  ∃b',F6g c (b,o) v (v.2.length:Int) (i:Int)=some (b',o++((List.range' i d).filter fun i=>v.2.getD i 0==c).map Int.ofNat):=by
 have hlim:=J5
 induction d with
 |zero=>
  intro i b o hi ho
  exact⟨b,by rw[F6gE,gF (by omega)];simp⟩
 |succ d ih=>
  intro i b o hi ho
  have hlt:i<v.2.length:=by omega
  cases hc:(v.2.getD i 0==c)with
  |true=>
   obtain⟨b',g1⟩:=ih (i+1) (b&&false) (o++[(i:Int)]) (by omega) (by simp;omega)
   rw[F6gE,gT (by omega),gT (by omega),gT (by omega),Qj,up1 i (by omega),K19,K1j,hc,cond_true,gT (by simp;omega),J1,g1]
   exact⟨b',by simp⟩
  |false=>
   obtain⟨b',g1⟩:=ih (i+1) b o (by omega) (by omega)
   rw[F6gE,gT (by omega),gT (by omega),gT (by omega),Qj,up1 i (by omega),K19,K1j,hc,cond_false,J1,g1]
   exact⟨b',by simp⟩
theorem Qgn(v:DSight)(hv:v.2.length≤100000)(c:Int)(d:Nat):∀(i:Nat) (b:Bool) (o:List Int),i+d=v.2.length→o.length≤i→
  (∃b',F6g c (b,o) v (v.2.length:Int) (i:Int)=some (b',o++((List.range' i d).filter fun i=>v.2.getD i 0==c).map Int.ofNat))∧F58 c (false,o) v (v.2.length:Int) (i:Int)=some (false,o++((List.range' i d).filter fun i=>v.2.getD i 0==c).map Int.ofNat):=by
 have hlim:=J5
 induction d with
 |zero=>
  intro i b o hi ho
  exact⟨⟨b,by rw[F6gE,gF (by omega)];simp⟩,by rw[F58E,gF (by omega)];simp⟩
 |succ d ih=>
  intro i b o hi ho
  have hlt:i<v.2.length:=by omega
  cases hc:(v.2.getD i 0==c)with
  |true=>
   obtain⟨⟨b',g1⟩,g2⟩:=ih (i+1) (b&&false) (o++[(i:Int)]) (by omega) (by simp;omega)
   constructor
   ·rw[F6gE,gT (by omega),gT (by omega),gT (by omega),Qj,up1 i (by omega),K19,K1j,hc,cond_true,gT (by simp;omega),J1,g1]
    exact⟨b',by simp⟩
   ·rw[F58E,gT (by omega),gT (by omega),gT (by omega),Qj,up1 i (by omega),K19,K1j,hc,cond_true,gT (by simp;omega),J1,K24,g2]
    simp
  |false=>
   obtain⟨⟨b',g1⟩,g2⟩:=ih (i+1) b o (by omega) (by omega)
   constructor
   ·rw[F6gE,gT (by omega),gT (by omega),gT (by omega),Qj,up1 i (by omega),K19,K1j,hc,cond_false,J1,g1]
    exact⟨b',by simp⟩
   ·rw[F58E,gT (by omega),gT (by omega),gT (by omega),Qj,up1 i (by omega),K19,K1j,hc,cond_false,J1,g2]
    simp
theorem Qgs(v:DSight)(hv:v.2.length≤100000)(c:Int):∃b,F1u v c=some (b,inL v.2 c):=by
 obtain⟨b,g1⟩:=Qf4 v hv c v.2.length 0 true [] (by omega) (by simp)
 have g1':F6g c (true,[]) v (v.2.length:Int) 0=_:=g1
 rw[F1uE,g1',J0,inL,K1c]
 exact⟨b,rfl⟩
theorem Qfm(v:DSight)(hv:v.2.length≤100000)(c:Int):F2d v c=some (false,inL v.2 c):=by
 obtain⟨_,g2⟩:=Qgn v hv c v.2.length 0 true [] (by omega) (by simp)
 have g2':F58 c (false,[]) v (v.2.length:Int) 0=_:=g2
 rw[F2dE,g2',J0,inL,K1c]
 rfl
theorem Sees.inClass{p:DProgram}{v:List Int}(h:Sees p v)(c:Int):∀x∈inL v c,0≤x∧x<(Qi p:Int):=fun x hx=>by
 have:=(Q2k.1 hx).1
 rw[h.len]at this
 exact this
noncomputable def Q12(p:DProgram)(v:List Int)(c:Int):List Int:=Qs (clsL v ((inL v c).flatMap (Q19 p)))
theorem Q71{p:DProgram}(h:Ok p)(v:DSight)(l:Bool×List Int)(hl:l.2.length≤10000)(hn:∀x∈l.2,0≤x∧x<(Qi p:Int))(d:Nat):∀(i:Nat) (o:List Int),i+d=l.2.length→o.length≤32*i→
  F7s p v (false,o) l (l.2.length:Int) (i:Int)=some (false,o++(l.2.drop i).flatMap (Q19 p)):=by
 have hlim:=J5
 have hm:=Q25 h.sml
 induction d with
 |zero=>
  intro i o hi ho
  rw[F7sE,gF (by omega),K8 (by omega)]
  simp
 |succ d ih=>
  intro i o hi ho
  have hlt:i<l.2.length:=by omega
  have hx:=hn _ (K3 hlt)
  have hlen:=Q1n h hx
  rw[F7sE,gT (by omega),gT (by omega),gT (by omega),J2 l.2 _ i hlt,Qhv h _ (by omega),J0,gT (by simp only;omega),up1 i (by omega),J1,K1w,ih (i+1) _ (by omega) (by simp;omega),K2 hlt,K17]
  simp
theorem Qb3{p:DProgram}{v:List Int}(h:Sees p v)(f:Bool)(c:Int):F3s p (f,v) c=some (false,Q12 p v c):=by
 have hm:=h.manyV
 have hil:=Q4d v c
 have q:=Q71 h.ok (f,v) (false,inL v c) (by simp only;omega) (h.inClass c) (inL v c).length 0 [] (by simp) (by simp)
 have q':F7s p (f,v) (false,[]) (false,inL v c) ((inL v c).length :Int) 0=_:=q
 have hlen:=Q3y h.ok (inL v c) (h.inClass c)
 have e:=h.clsP (false,(inL v c).flatMap (Q19 p)) (by simp only;omega) (Q2u h.ok _ (h.inClass c)) f
 rw[F3sE,Qfm (f,v) (by simp only;omega) c,J0]
 simp only[q',J0,Kt,Kf,e]
 rfl
theorem Qam{v l:List Int}{c:Int}:c∈clsL v l↔∃s∈l,v.getD s.toNat 0=c:=Kv
theorem Qcj(v l:List Int):Qs (clsL v (Qs l))=Qs (clsL v l):=Qa0 fun x=>by
 simp only[Qam,Qp]
theorem Qf5{p:DProgram}{v:List Int}(h:Sees p v)(f:Bool)(c:Int):∃b,F6j p (f,v) c=some (b,Q12 p v c):=by
 have hm:=h.manyV
 have hil:=Q4d v c
 obtain⟨b1,e1⟩:=Qgs (f,v) (by simp only;omega) c
 obtain⟨b2,e2⟩:=Qgu h.ok (b1,inL v c) (by simp only;omega) (h.inClass c)
 have hlen:=Q3y h.ok (inL v c) (h.inClass c)
 have hs:=Q2w ((inL v c).flatMap (Q19 p))
 obtain⟨b3,e3⟩:=h.clsS (b2,Qs ((inL v c).flatMap (Q19 p))) (by simp only;omega) (fun x hx=>Q2u h.ok _ (h.inClass c) x ((Qp _ x).1 hx)) f
 rw[F6jE,e1,J0]
 simp only[e2,J0,e3,Qcj]
 exact⟨b3,rfl⟩
theorem Q1u{p:DProgram}{v:List Int}(h:Sees p v)(c:Int):(Q12 p v c).length ≤40:=by
 refine Q1d (Qk _) (n:=40) fun x hx=> ?_
 obtain⟨s,hs,rfl⟩:=Qam.1 ((Qp _ x).1 hx)
 have h1:=Q2u h.ok _ (h.inClass c) s hs
 have hm:=h.len
 have e:v.getD s.toNat 0=v[s.toNat]'(by omega):=by simp[K1,show s.toNat<v.length by omega]
 rw[e]
 have:=h.inn _ (K3 (l:=v) (n:=s.toNat) (by omega))
 omega
noncomputable def ownL(p:DProgram)(v:List Int)(no:Int):List Int:=Qs (clsL v (Q19 p no))
theorem Sees.ownP{p:DProgram}{v:List Int}(h:Sees p v){no:Int}(hn:0≤no∧no<(Qi p:Int))(f g:Bool):F29 (f,v) (g,Q19 p no)=some (false,ownL p v no):=by
 have hm:=h.manyV
 have hl:=Q1n h.ok hn
 have hlen:=h.len
 exact h.clsP (g,Q19 p no) (by simp only;omega) (Q53 h.ok hn) f
theorem Sees.ownS{p:DProgram}{v:List Int}(h:Sees p v){no:Int}(hn:0≤no∧no<(Qi p:Int))(f g:Bool):∃b,F2o (f,v) (g,Q19 p no)=some (b,ownL p v no):=by
 have hm:=h.manyV
 have hl:=Q1n h.ok hn
 have hlen:=h.len
 exact h.clsS (g,Q19 p no) (by simp only;omega) (Q53 h.ok hn) f
def InS(p:DProgram)(l:List Int):Prop:=l.length≤Qi p∧∀x∈l,0≤x∧x<(Qi p:Int)
theorem InS.filter{p:DProgram}{l:List Int}(h:InS p l)(q:Int→Bool):InS p (l.filter q):=⟨K12 (K1m _ _) h.1,fun x hx=>h.2 x (K1d.1 hx).1⟩
theorem InS.next{p:DProgram}{l:List Int}(hok:Ok p)(h:InS p l):InS p (Qs (l.flatMap (Q19 p))):=by
 have hx:∀x∈Qs (l.flatMap (Q19 p)),0≤x∧x<(Qi p:Int):=fun x hx=>Q2u hok l h.2 x ((Qp _ x).1 hx)
 exact⟨Q1d (Qk _) hx,hx⟩
def negs(s:List Int):Nat:=s.countP fun x=>decide (x<0)
def Qm(k:Nat)(st:List Int×List Int)(w:Int):List Int×List Int:=if st.1.getD w.toNat 0<0 then(st.1.set w.toNat (st.1.getD k 0+1),st.2++[w])else st
def bfsL(G:List (List Int)):Nat→List Int→List Int→List Int
 |0,s,_=>s
 |_+1,s,[]=>s
 |n+1,s,k::q=>bfsL G n ((G.getD k.toNat []).foldl (Qm k.toNat) (s,q)).1 ((G.getD k.toNat []).foldl (Qm k.toNat) (s,q)).2
structure BInv (m:Nat) (s q:List Int):Prop where
 len:s.length=m
 low:∀e∈s,-1≤e
 high:∀e∈s,e+1+(negs s:Int)≤m
 que:∀w∈q,(0≤w∧w<(m:Int))∧0≤s.getD w.toNat 0
theorem Qa(s:List Int)(i j:Nat)(a:Int)(hi:i<s.length):(s.set i a).getD j 0=if i=j then a else s.getD j 0:=by
 rw[K1,List.getElem?_set,K1]
 by_cases h:i=j
 ·subst h;simp[hi]
 ·simp[h]
theorem Q2y{s:List Int}{i:Nat}(h:i<s.length):s.getD i 0∈s:=by
 have e:s.getD i 0=s[i]:=by simp[K1,h]
 rw[e]
 exact K3 h
theorem Q5p(s:List Int):negs s≤s.length:=List.countP_le_length
theorem Q42{m k:Nat}{s q:List Int}(h:BInv m s q)(hk:k<m)(hk2:0≤s.getD k 0){w:Int}(hw:0≤w∧w<(m:Int)):
  BInv m (Qm k (s,q) w).1 (Qm k (s,q) w).2 ∧(Qm k (s,q) w).1.getD k 0=s.getD k 0∧2*negs (Qm k (s,q) w).1 +(Qm k (s,q) w).2.length ≤2*negs s+q.length:=by
 have hlen:=h.len
 unfold Qm
 by_cases c:s.getD w.toNat 0<0
 ·simp only[if_pos c]
  have hwl:w.toNat<s.length:=by omega
  have hws:s[w.toNat]<0:=by
   have e:s.getD w.toNat 0=s[w.toNat]:=by simp[K1,hwl]
   omega
  have hn:negs (s.set w.toNat (s.getD k 0+1))+1=negs s:=by
   unfold negs
   rw[List.countP_set hwl,if_pos (decide_eq_true hws),if_neg (by simp only[decide_eq_true_eq];omega)]
   have:0<s.countP fun x=>decide (x<0):=List.countP_pos_iff.2 ⟨_,K3 hwl,decide_eq_true hws⟩
   omega
  have hkw:w.toNat≠k:=by
   rintro rfl
   omega
  have hkm:=Q2y (s:=s) (i:=k) (by omega)
  refine⟨⟨by rw[Ko];exact hlen,fun e he=> ?_,fun e he=> ?_,fun x hx=> ?_⟩,?_,?_⟩
  ·rcases List.mem_or_eq_of_mem_set he with he|rfl
   ·exact h.low e he
   ·omega
  ·rcases List.mem_or_eq_of_mem_set he with he|rfl
   ·have:=h.high e he
    omega
   ·have:=h.high _ hkm
    omega
  ·rw[Qa s _ _ _ hwl]
   rcases Kl.1 hx with hx|hx
   ·obtain⟨h1,h2⟩:=h.que x hx
    refine⟨h1,?_⟩
    split<;>omega
   ·rw[Km]at hx
    subst hx
    exact⟨hw,by rw[if_pos rfl];omega⟩
  ·rw[Qa s _ _ _ hwl,if_neg hkw]
  ·rw[Kg,K1g]
   omega
 ·simp only[if_neg c]
  exact⟨h,trivial,Ky _⟩
theorem Q4j{m k:Nat}(hk:k<m)(ws:List Int):∀{s q:List Int},BInv m s q→0≤s.getD k 0→(∀w∈ws,0≤w∧w<(m:Int))→
  BInv m (ws.foldl (Qm k) (s,q)).1 (ws.foldl (Qm k) (s,q)).2 ∧2*negs (ws.foldl (Qm k) (s,q)).1 +(ws.foldl (Qm k) (s,q)).2.length ≤2*negs s+q.length:=by
 induction ws with
 |nil=>intro s q h _ _;exact⟨h,Ky _⟩
 |cons w ws ih=>
  intro s q h h2 hw
  obtain⟨g1,g2,g3⟩:=Q42 h hk h2 (hw w Kk)
  rw[K16]
  obtain⟨i1,i2⟩:=ih (s:=(Qm k (s,q) w).1) (q:=(Qm k (s,q) w).2) g1 (by rw[g2];exact h2) fun x hx=>hw x (K9 _ hx)
  exact⟨i1,K12 i2 g3⟩
structure Gr (m:Nat) (G:List (List Int)):Prop where
 len:G.length=m
 inn:∀l∈G,∀w∈l,0≤w∧w<(m:Int)
 short:∀l∈G,l.length≤20000000
 small:m≤10000
theorem Q2a{G:List (List Int)}{R:List (Bool×List Int)}(h:R.map Prod.snd=G){k:Nat}(hk:k<G.length):k<R.length∧(R.getD k (true,[])).2 =G.getD k []∧G.getD k []∈G:=by
 subst h
 have hk':k<R.length:=by simpa using hk
 refine⟨hk',?_,?_⟩
 ·simp[K1,hk']
 ·have e:(R.map Prod.snd).getD k []=(R.map Prod.snd)[k]:=by simp[K1,hk']
  rw[e]
  exact K3 _
theorem Q8u{m:Nat}(g:Bool×List (Bool×List Int))(b ob:Bool)(hd:Int)(hhd:0≤hd∧hd<(m:Int))(r:Bool×List Int)(hr:r.2.length≤20000000)(hw:∀w∈r.2,0≤w∧w<(m:Int))(hm:m≤10000)(d:Nat):∀(i:Nat) (s q:List Int),i+d=r.2.length→BInv m s q→0≤s.getD hd.toNat 0→q.length+d≤200000000→∀ob,∃ob',
  F70 g (b,s) (ob,hd::q) r (r.2.length:Int) (i:Int)=some ((b,((r.2.drop i).foldl (Qm hd.toNat) (s,q)).1),(ob',hd::((r.2.drop i).foldl (Qm hd.toNat) (s,q)).2)):=by
 have hlim:=J5
 induction d with
 |zero=>
  intro i s q hi hI hk hq ob
  rw[F70E,gF (by omega),K8 (by omega)]
  exact⟨ob,rfl⟩
 |succ d ih=>
  intro i s q hi hI hk hq ob
  have hlt:i<r.2.length:=by omega
  have hx:=hw _ (K3 hlt)
  obtain⟨g1,g2,g3⟩:=Q42 hI (show hd.toNat<m by omega) hk hx
  have hlen:=hI.len
  have hh:=hI.high _ (Q2y (s:=s) (i:=hd.toNat) (by omega))
  rw[F70E,gT (by omega),gT (by omega),gT (by omega),J2 r.2 _ i hlt,gT hx.1,gT (by simp only;omega),up1 i (by omega),K2 hlt,K16]
  simp only[List.getD_cons_zero]
  by_cases c:s.getD (Int.toNat r.2[i]) 0<0
  ·have e:Qm hd.toNat (s,q) r.2[i]=(s.set (Int.toNat r.2[i]) (s.getD hd.toNat 0+1),q++[r.2[i]]):=by unfold Qm;exact if_pos c
   rw[e]at g1 g2 g3
   obtain⟨ob',g⟩:=ih (i+1) _ _ (by omega) g1 (by rw[g2];exact hk) (by simp;omega) (ob&&false)
   rw[gT c,gT (by simp),gT hhd.1,gT (by omega),gT hx.1,gT (by omega),gT (by simp;omega),wr (by omega),J1,e]
   exact⟨ob',g⟩
  ·have e:Qm hd.toNat (s,q) r.2[i]=(s,q):=by unfold Qm;exact if_neg c
   obtain⟨ob',g⟩:=ih (i+1) s q (by omega) hI hk (by omega) ob
   rw[gF c,J1,e]
   exact⟨ob',g⟩
theorem Qhg{m:Nat}(g:Bool×List (Bool×List Int))(b:Bool)(hd:Int)(hhd:0≤hd∧hd<(m:Int))(r:Bool×List Int)(hr:r.2.length≤20000000)(hw:∀w∈r.2,0≤w∧w<(m:Int))(hm:m≤10000)(d:Nat):∀(i:Nat) (s q:List Int),i+d=r.2.length→BInv m s q→0≤s.getD hd.toNat 0→q.length+d≤200000000→∀ob,∃ob',
  F5z g (b,s) (ob,q) hd r (r.2.length:Int) (i:Int)=some ((b,((r.2.drop i).foldl (Qm hd.toNat) (s,q)).1),(ob',((r.2.drop i).foldl (Qm hd.toNat) (s,q)).2)):=by
 have hlim:=J5
 induction d with
 |zero=>
  intro i s q hi hI hk hq ob
  rw[F5zE,gF (by omega),K8 (by omega)]
  exact⟨ob,rfl⟩
 |succ d ih=>
  intro i s q hi hI hk hq ob
  have hlt:i<r.2.length:=by omega
  have hx:=hw _ (K3 hlt)
  obtain⟨g1,g2,g3⟩:=Q42 hI (show hd.toNat<m by omega) hk hx
  have hlen:=hI.len
  have hh:=hI.high _ (Q2y (s:=s) (i:=hd.toNat) (by omega))
  rw[F5zE,gT (by omega),gT (by omega),gT (by omega),J2 r.2 _ i hlt,gT hx.1,gT (by simp only;omega),up1 i (by omega),K2 hlt,K16]
  simp only
  by_cases c:s.getD (Int.toNat r.2[i]) 0<0
  ·have e:Qm hd.toNat (s,q) r.2[i]=(s.set (Int.toNat r.2[i]) (s.getD hd.toNat 0+1),q++[r.2[i]]):=by unfold Qm;exact if_pos c
   rw[e]at g1 g2 g3
   obtain⟨ob',g⟩:=ih (i+1) _ _ (by omega) g1 (by rw[g2];exact hk) (by simp;omega) (ob&&false)
   rw[gT c,gT hhd.1,gT (by omega),gT hx.1,gT (by omega),gT (by simp;omega),wr (by omega),J1,e]
   exact⟨ob',g⟩
  ·have e:Qm hd.toNat (s,q) r.2[i]=(s,q):=by unfold Qm;exact if_neg c
   obtain⟨ob',g⟩:=ih (i+1) s q (by omega) hI hk (by omega) ob
   rw[gF c,J1,e]
   exact⟨ob',g⟩
theorem Q70{m:Nat}{G:List (List Int)}(hG:Gr m G)(gb gb2:Bool){R R2:List (Bool×List Int)}(hR:R.map Prod.snd=G)(hR2:R2.map Prod.snd=G)(n:Nat):∀(s q:List Int) (b b2 ob ob2:Bool),BInv m s q→2*negs s+q.length≤n→n≤20000000→
  Fa3 (gb,R) (b,s) (ob,q)=some (b,bfsL G n s q)∧F96 (gb2,R2) (b2,s) (ob2,q)=some (b2,bfsL G n s q)∧BInv m (bfsL G n s q) []:=by
 induction n with
 |zero=>
  intro s q b b2 ob ob2 hI hn _
  have:q=[]:=List.length_eq_zero_iff.1 (by omega)
  subst this
  exact⟨by rw[Fa3E,gF (by simp)];rfl,by rw[F96E,gF (by simp)];rfl,hI⟩
 |succ n ih=>
  intro s q b b2 ob ob2 hI hn hn2
  cases q with
  |nil=>exact⟨by rw[Fa3E,gF (by simp)];rfl,by rw[F96E,gF (by simp)];rfl,hI⟩
  |cons k q=>
   obtain⟨hk1,hk2⟩:=hI.que k Kk
   have hI':BInv m s q:=⟨hI.len,hI.low,hI.high,fun w hw=>hI.que w (K9 _ hw)⟩
   have hkG:k.toNat<G.length:=by rw[hG.len];omega
   obtain⟨r1,r2,r3⟩:=Q2a hR hkG
   obtain⟨r4,r5,_⟩:=Q2a hR2 hkG
   have hin:=hG.inn _ r3
   have hsh:=hG.short _ r3
   have hsm:=hG.small
   obtain⟨v1,v2⟩:=Q4j (show k.toNat<m by omega) (G.getD k.toNat []) hI' hk2 hin
   obtain⟨i1,i2,i3⟩:=ih ((G.getD k.toNat []).foldl (Qm k.toNat) (s,q)).1 ((G.getD k.toNat []).foldl (Qm k.toNat) (s,q)).2 b b2 ob ob2 v1 (by simp only[Kp]at hn;omega) (by omega)
   simp only[Kp]at hn
   refine⟨?_,?_,i3⟩
   ·obtain⟨ob',e⟩:=Q8u (m:=m) (gb,R) b ob k hk1 (R.getD k.toNat (true,[])) (by rw[r2];exact hsh) (by rw[r2];exact hin) hsm (R.getD k.toNat (true,[])).2.length 0 s q (by omega) hI' hk2 (by rw[r2];omega) ob
    rw[r2,Kf]at e
    have e':F70 (gb,R) (b,s) (ob,k::q) (R.getD k.toNat (true,[])) ((G.getD k.toNat []).length :Int) 0=_:=e
    rw[Fa3E,gT (by simp),gT (by simp)]
    simp only[List.getD_cons_zero]
    rw[gT hk1.1,gT (by omega),r2,e',J0,gT (by simp;omega),J1]
    have et:∀(l:List Int),((k::l).take (k::l).length).drop 1=l:=fun l=>by simp
    simp only[et]
    obtain⟨j1,_,_⟩:=ih ((G.getD k.toNat []).foldl (Qm k.toNat) (s,q)).1 ((G.getD k.toNat []).foldl (Qm k.toNat) (s,q)).2 b b2 ob' ob2 v1 (by omega) (by omega)
    exact j1
   ·obtain⟨ob',e⟩:=Qhg (m:=m) (gb2,R2) b2 k hk1 (R2.getD k.toNat (true,[])) (by rw[r5];exact hsh) (by rw[r5];exact hin) hsm (R2.getD k.toNat (true,[])).2.length 0 s q (by omega) hI' hk2 (by rw[r5];omega) ob2
    rw[r5,Kf]at e
    have e':F5z (gb2,R2) (b2,s) (ob2,q) k (R2.getD k.toNat (true,[])) ((G.getD k.toNat []).length :Int) 0=_:=e
    have et:((k::q).take (k::q).length).drop 1=q:=by simp
    rw[F96E,gT (by simp),gT (by simp),gT (by simp;omega)]
    simp only[List.getD_cons_zero,et]
    rw[gT hk1.1,gT (by omega),r5,e',J0,J1]
    obtain⟨_,j2,_⟩:=ih ((G.getD k.toNat []).foldl (Qm k.toNat) (s,q)).1 ((G.getD k.toNat []).foldl (Qm k.toNat) (s,q)).2 b b2 ob ob' v1 (by omega) (by omega)
    exact j2
def far0(m:Nat)(l:List Int):List Int:=l.foldl (fun s w=>s.set w.toNat 0) (List.replicate m (-1))
def farL(G:List (List Int))(l:List Int):List Int:=bfsL G (2*G.length+l.length) (far0 G.length l) l
theorem Q3s(m:Nat)(l:List Int)(hl:∀w∈l,0≤w∧w<(m:Int)):BInv m (far0 m l) l:=by
 have key:∀(l:List Int) (s:List Int) (done:List Int),(∀w∈l,0≤w∧w<(m:Int))→s.length=m→(∀e∈s,e= -1∨e=0)→(∀w∈done,(0≤w∧w<(m:Int))∧0≤s.getD w.toNat 0)→(l.foldl (fun s w=>s.set w.toNat 0) s).length =m∧(∀e∈l.foldl (fun s w=>s.set w.toNat 0) s,e= -1∨e=0)∧∀w,w∈done∨w∈l→(0≤w∧w<(m:Int))∧0≤(l.foldl (fun s w=>s.set w.toNat 0) s).getD w.toNat 0:=by
  intro l
  induction l with
  |nil=>intro s done _ h1 h2 h3;exact⟨h1,h2,fun w hw=>h3 w (hw.resolve_right (by simp))⟩
  |cons a l ih=>
   intro s done hw h1 h2 h3
   have ha:=hw a Kk
   rw[K16]
   obtain⟨g1,g2,g3⟩:=ih (s.set a.toNat 0) (a::done) (fun w h=>hw w (K9 _ h)) (by rw[Ko];exact h1) (fun e he=>by
    rcases List.mem_or_eq_of_mem_set he with he|rfl
    ·exact h2 e he
    ·exact .inr rfl) (fun w hwd=>by
    rw[Qa s _ _ _ (by omega)]
    rcases Kd.1 hwd with rfl|hwd
    ·exact⟨ha,by rw[if_pos rfl];omega⟩
    ·obtain⟨q1,q2⟩:=h3 w hwd
     exact⟨q1,by split<;>omega⟩)
   refine⟨g1,g2,fun w hw2=>g3 w ?_⟩
   rcases hw2 with h|h
   ·exact .inl (K9 _ h)
   ·rcases Kd.1 h with rfl|h
    ·exact .inl Kk
    ·exact .inr h
 obtain⟨g1,g2,g3⟩:=key l (List.replicate m (-1)) [] hl (by simp) (fun e he=> .inl (List.eq_of_mem_replicate he)) (by simp)
 have hn:=Q5p (far0 m l)
 refine⟨g1,fun e he=>by rcases g2 e he with h|h<;>omega,fun e he=> ?_,fun w hw=>g3 w (.inr hw)⟩
 have e1:(far0 m l).length =m:=g1
 rcases g2 e he with h|h
 ·omega
 ·have hne:negs (far0 m l)≠(far0 m l).length :=fun q=>by
   have:=List.countP_eq_length.1 q e he
   simp only[decide_eq_true_eq]at this
   omega
  omega
theorem Q8t(g:Bool×List (Bool×List Int))(b:Bool)(op:Bool×List Int)(m:Nat)(l:Bool×List Int)(hl:l.2.length≤1048576)(hw:∀w∈l.2,0≤w∧w<(m:Int))(s:List Int)(hs:s.length=m):F85 g (b,s) op l (l.2.length:Int) 0=some (b,l.2.foldl (fun s w=>s.set w.toNat 0) s):=
 Jy l.2 (fun(s:List Int) w=>s.set w.toNat 0) (fun s=>(b,s)) (fun s i=>F85 g (b,s) op l (l.2.length:Int) i) (fun _ s=>s.length=m) (fun i h s hs=>by
  have hx:=hw _ (K3 h)
  refine⟨?_,by rw[Ko];exact hs⟩
  rw[F85E,gT (by omega),gT (by omega),gT (by omega),J2 l.2 _ i h,gT hx.1,gT (by simp only;omega),up1 i (by omega),J1]) (fun s _=>by rw[F85E,gF (by omega)]) s hs
theorem Qhf(g:Bool×List (Bool×List Int))(fr:Bool×List Int)(b:Bool)(m:Nat)(l:Bool×List Int)(hl:l.2.length≤1048576)(hw:∀w∈l.2,0≤w∧w<(m:Int))(s:List Int)(hs:s.length=m):F80 g fr (b,s) l (l.2.length:Int) 0=some (b,l.2.foldl (fun s w=>s.set w.toNat 0) s):=
 Jy l.2 (fun(s:List Int) w=>s.set w.toNat 0) (fun s=>(b,s)) (fun s i=>F80 g fr (b,s) l (l.2.length:Int) i) (fun _ s=>s.length=m) (fun i h s hs=>by
  have hx:=hw _ (K3 h)
  refine⟨?_,by rw[Ko];exact hs⟩
  rw[F80E,gT (by omega),gT (by omega),gT (by omega),J2 l.2 _ i h,gT hx.1,gT (by simp only;omega),up1 i (by omega),J1]) (fun s _=>by rw[F80E,gF (by omega)]) s hs
theorem Qhe(g:Bool×List (Bool×List Int))(fr:Bool×List Int)(b:Bool)(m:Nat)(hm:m≤10000)(d:Nat):∀(i:Nat) (s:List Int),i+d=m→s.length=m→F88 g fr (b,s) (m:Int) (i:Int)=some (b,s.take i++List.replicate d (-1)):=by
 induction d with
 |zero=>
  intro i s hi hs
  rw[F88E,gF (by omega),K1i (by omega)]
  simp
 |succ d ih=>
  intro i s hi hs
  rw[F88E,gT (by omega),gT (by omega),gT (by simp only;omega),K5,up1 i (by omega),J1,ih (i+1) (s.set i (-1)) (by omega) (by rw[Ko];exact hs)]
  have e:(s.set i (-1)).take (i+1)=s.take i++[-1]:=by
   rw[K1b (by rw[Ko];omega),List.getElem_set_self,List.take_set_of_le (Ky _)]
  rw[e,Kj,List.replicate_succ]
  rfl
theorem Q6v{m:Nat}{G:List (List Int)}(hG:Gr m G)(hm:1≤m)(gb:Bool){R:List (Bool×List Int)}(hR:R.map Prod.snd=G)(l:List Int)(hl:l.length≤10000)(hw:∀w∈l,0≤w∧w<(m:Int))(fb:Bool)(hfb:fb=true→l=[]):Fm (gb,R) (fb,l)=some (false,farL G l):=by
 have hlim:=J5
 have hRl:R.length=m:=by rw[←hG.len,←hR,Ki]
 have hsm:=hG.small
 have e1:=Q4f (false,[-1]) m (by simp) (by simp) hm hsm
 have e1':F1x (false,[-1]) (m:Int)=some (false,List.replicate m (-1)):=by
  rw[e1]
  congr 2
  clear e1 hR hRl hG hw hm hsm
  induction m with
  |zero=>rfl
  |succ n ih=>rw[List.replicate_succ,List.flatten_cons,ih];rfl
 have e2:F4m (fb,l)=some (fb,l):=by
  rw[F4mE]
  cases fb with
  |false=>rw[cond_false,gT (by simp;omega),Kt]
  |true=>rw[hfb rfl];rfl
 have e3:=Q8t (gb,R) false (fb,l) m (fb,l) (by simp only;omega) hw (List.replicate m (-1)) (by simp)
 have e3':F85 (gb,R) (false,List.replicate m (-1)) (fb,l) (fb,l) (l.length:Int) 0=some (false,far0 m l):=e3
 have hI:=Q3s m l hw
 have hn:=Q5p (far0 m l)
 obtain⟨e4,_,_⟩:=Q70 hG gb gb hR hR (2*m+l.length) (far0 m l) l false false fb false hI (by rw[hI.len]at hn;omega) (by omega)
 rw[FmE]
 simp only[hRl,e1',J0,e2,e3',e4]
 rw[farL,hG.len]
theorem Qg3{m:Nat}{G:List (List Int)}(hG:Gr m G)(gb fb:Bool){R:List (Bool×List Int)}(hR:R.map Prod.snd=G)(l:List Int)(hl:l.length≤10000)(hw:∀w∈l,0≤w∧w<(m:Int)):Fc (gb,R) (fb,l)=some (false,farL G l):=by
 have hlim:=J5
 have hRl:R.length=m:=by rw[←hG.len,←hR,Ki]
 have hsm:=hG.small
 have e1:=Qhe (gb,R) (fb,l) false m hsm m 0 (List.replicate m 0) (by omega) (by simp)
 have e1':F88 (gb,R) (fb,l) (false,List.replicate m 0) (m:Int) 0=some (false,List.replicate m (-1)):=by simpa using e1
 have e3:=Qhf (gb,R) (fb,l) false m (fb,l) (by simp only;omega) hw (List.replicate m (-1)) (by simp)
 have e3':F80 (gb,R) (fb,l) (false,List.replicate m (-1)) (fb,l) (l.length:Int) 0=some (false,far0 m l):=e3
 have hI:=Q3s m l hw
 have hn:=Q5p (far0 m l)
 have eo:∃ob,F4w (fb,l)=some (ob,l):=⟨false,by rw[F4wE,gT (by simp;omega),Kt]⟩
 obtain⟨ob,eo⟩:=eo
 obtain⟨_,e4,_⟩:=Q70 hG gb gb hR hR (2*m+l.length) (far0 m l) l false false false ob hI (by rw[hI.len]at hn;omega) (by omega)
 rw[FcE]
 simp only[hRl,K1n,K5]
 rw[gT (by omega),gT (by omega),gT (by omega),gT (by omega),e1',J0,e3',J0,eo,J0,e4,J0,farL,hG.len]
theorem Qab{m:Nat}{G:List (List Int)}(hG:Gr m G)(l:List Int)(hl:l.length≤10000)(hw:∀w∈l,0≤w∧w<(m:Int)):BInv m (farL G l) []:=by
 have hI:=Q3s m l hw
 have hn:=Q5p (far0 m l)
 have hsm:=hG.small
 have hRl:(G.map fun l=>(false,l)).map Prod.snd=G:=by rw[List.map_map];exact List.map_id'' (fun _=>rfl) G
 rw[farL,hG.len]
 exact(Q70 hG false false hRl hRl (2*m+l.length) (far0 m l) l false false false false hI (by rw[hI.len]at hn;omega) (by omega)).2.2
theorem Sees.start{p:DProgram}{v:List Int}(h:Sees p v):Qe p.1 p.2.1 p.2.2.1.2≠0:=by
 have hg:=h.ok.good
 simp only[Q8,K7,beq_iff_eq]at hg
 rw[hg.1]
 decide
theorem Qd7{p:DProgram}{v:List Int}(h:Sees p v):1≤(Q23 v).toNat ∧((Q23 v).toNat :Int)=Q23 v∧(Q23 v).toNat ≤33:=by
 have hc:=Q1t v h.inn
 have hm:=h.manyV
 have h0:=Q3v v _ (K3 (l:=v) (n:=0) (by omega))
 have h1:=(h.inn _ (K3 (l:=v) (n:=0) (by omega))).1
 omega
def Pred(G:List (List Int))(s:List Int):Prop:=∀v:Nat,v<s.length→0<s.getD v 0→∃u:Nat,u<s.length∧(v:Int)∈G.getD u []∧s.getD u 0=s.getD v 0-1
theorem Qc1{G:List (List Int)}{m k:Nat}{s q:List Int}(h:BInv m s q)(hk:k<m)(hk2:0≤s.getD k 0){w:Int}(hw:0≤w∧w<(m:Int))(hwG:w∈G.getD k [])(hP:Pred G s):Pred G (Qm k (s,q) w).1 :=by
 have hlen:=h.len
 unfold Qm
 by_cases c:s.getD w.toNat 0<0
 ·simp only[if_pos c]
  have hwl:w.toNat<s.length:=by omega
  have hkw:w.toNat≠k:=by
   rintro rfl
   omega
  intro v hv h0
  rw[Ko]at hv⊢
  rw[Qa s _ _ _ hwl]at h0
  by_cases e:w.toNat=v
  ·refine⟨k,by omega,?_,?_⟩
   ·rw[←e,K1p hw.1];exact hwG
   ·rw[Qa s _ _ _ hwl,Qa s _ _ _ hwl,if_neg hkw,if_pos e]
    omega
  ·rw[if_neg e]at h0
   obtain⟨u,u1,u2,u3⟩:=hP v hv h0
   refine⟨u,u1,u2,?_⟩
   have hne:w.toNat≠u:=by
    rintro rfl
    omega
   rw[Qa s _ _ _ hwl,Qa s _ _ _ hwl,if_neg hne,if_neg e]
   exact u3
 ·simp only[if_neg c]
  exact hP
theorem Qa6{G:List (List Int)}{m k:Nat}(hk:k<m)(ws:List Int)(hwG:∀w∈ws,w∈G.getD k []):∀{s q:List Int},BInv m s q→0≤s.getD k 0→(∀w∈ws,0≤w∧w<(m:Int))→Pred G s→Pred G (ws.foldl (Qm k) (s,q)).1 :=by
 induction ws with
 |nil=>intro s q _ _ _ h;exact h
 |cons w ws ih=>
  intro s q h h2 hw hP
  obtain⟨g1,g2,_⟩:=Q42 h hk h2 (hw w Kk)
  rw[K16]
  exact ih (fun x hx=>hwG x (K9 _ hx)) (s:=(Qm k (s,q) w).1) (q:=(Qm k (s,q) w).2) g1 (by rw[g2];exact h2) (fun x hx=>hw x (K9 _ hx)) (Qc1 h hk h2 (hw w Kk) (hwG w Kk) hP)
theorem Qei{m:Nat}{G:List (List Int)}(hG:Gr m G)(n:Nat):∀(s q:List Int),BInv m s q→Pred G s→Pred G (bfsL G n s q):=by
 induction n with
 |zero=>intro s q _ h;exact h
 |succ n ih=>
  intro s q hI hP
  cases q with
  |nil=>exact hP
  |cons k q=>
   obtain⟨hk1,hk2⟩:=hI.que k Kk
   have hI':BInv m s q:=⟨hI.len,hI.low,hI.high,fun w hw=>hI.que w (K9 _ hw)⟩
   have hkG:k.toNat<G.length:=by rw[hG.len];omega
   have e:G.getD k.toNat []∈G:=by
    have e:G.getD k.toNat []=G[k.toNat]:=by simp[K1,hkG]
    rw[e]
    exact K3 _
   have hin:=hG.inn _ e
   obtain⟨v1,_⟩:=Q4j (show k.toNat<m by omega) (G.getD k.toNat []) hI' hk2 hin
   exact ih _ _ v1 (Qa6 (show k.toNat<m by omega) _ (fun _ h=>h) hI' hk2 hin hP)
theorem Q9b(m:Nat)(l:List Int):∀v,(far0 m l).getD v 0≤0:=by
 have key:∀(l s:List Int),(∀v,s.getD v 0≤0)→∀v,(l.foldl (fun s w=>s.set w.toNat 0) s).getD v 0≤0:=by
  intro l
  induction l with
  |nil=>intro s h;exact h
  |cons a l ih=>
   intro s h
   rw[K16]
   refine ih _ fun v=> ?_
   by_cases c:a.toNat<s.length
   ·rw[Qa s _ _ _ c]
    split
    ·omega
    ·exact h v
   ·rw[List.set_eq_of_length_le (by omega)]
    exact h v
 refine key l _ fun v=> ?_
 rw[K1,K1z]
 split<;>simp
theorem Q81{m:Nat}{G:List (List Int)}(hG:Gr m G)(l:List Int)(hw:∀w∈l,0≤w∧w<(m:Int)):Pred G (farL G l):=by
 rw[farL,hG.len]
 refine Qei hG _ _ _ (Q3s m l hw) fun v _ h=> ?_
 have:=Q9b m l v
 omega
def Q22(v:Int)(row:List Int)(o:List (List Int)):List (List Int):=row.foldl (fun o w=>o.set w.toNat (o.getD w.toNat []++[v])) o
def Qf(g:List (List Int)):List (List Int):=(List.range g.length).foldl (fun o (v:Nat)=>Q22 (v:Int) (g.getD v []) o) (List.replicate g.length [])
def tot(o:List (List Int)):Nat:=(o.map List.length).sum
theorem Q4o(s:List (List Int))(i j:Nat)(a:List Int)(hi:i<s.length):(s.set i a).getD j []=if i=j then a else s.getD j []:=by
 rw[K1,List.getElem?_set,K1]
 by_cases h:i=j
 ·subst h;simp[hi]
 ·simp[h]
theorem Qdy(o:List (List Int))(i:Nat)(v:Int)(hi:i<o.length):tot (o.set i (o.getD i []++[v]))=tot o+1:=by
 induction o generalizing i with
 |nil=>simp at hi
 |cons a o ih=>
  cases i with
  |zero=>simp[tot];omega
  |succ i=>
   have:=ih i (by simpa using hi)
   simp only[tot,List.set_cons_succ,K14,List.sum_cons,List.getD_cons_succ]at this⊢
   omega
theorem Qa4(v:Int)(row:List Int):∀o:List (List Int),(∀w∈row,0≤w∧w<(o.length:Int))→
  (Q22 v row o).length =o.length∧tot (Q22 v row o)=tot o+row.length∧∀(j:Nat) (x:Int),x∈(Q22 v row o).getD j []↔x∈o.getD j []∨(x=v∧(j:Int)∈row):=by
 induction row with
 |nil=>intro o _;exact⟨rfl,rfl,fun j x=>by simp[Q22]⟩
 |cons w row ih=>
  intro o hw
  have h0:=hw w Kk
  obtain⟨g1,g2,g3⟩:=ih (o.set w.toNat (o.getD w.toNat []++[v])) (fun x hx=>by rw[Ko];exact hw x (K9 _ hx))
  refine⟨by rw[Q22,K16];rw[Q22]at g1;rw[g1,Ko],?_,fun j x=> ?_⟩
  ·rw[Q22,K16]
   rw[Q22]at g2
   rw[g2,Qdy _ _ _ (by omega),Kp]
   omega
  ·rw[Q22,K16]
   have:=g3 j x
   rw[Q22]at this
   rw[this,Q4o o _ _ _ (by omega)]
   by_cases e:w.toNat=j
   ·have e2:(j:Int)=w:=by omega
    rw[if_pos e,e,Kl,Km,Kd]
    constructor
    ·rintro((h|h)|⟨h,h2⟩)
     ·exact .inl h
     ·exact .inr ⟨h,.inl e2⟩
     ·exact .inr ⟨h,.inr h2⟩
    ·rintro(h|⟨h,h2⟩)
     ·exact .inl (.inl h)
     ·exact .inl (.inr h)
   ·have e2:(j:Int)≠w:=by omega
    rw[if_neg e,Kd]
    constructor
    ·rintro(h|⟨h,h2⟩)
     ·exact .inl h
     ·exact .inr ⟨h,.inr h2⟩
    ·rintro(h|⟨h,h2⟩)
     ·exact .inl h
     ·exact .inr ⟨h,h2.resolve_left e2⟩
theorem Q1b(g:List (List Int))(hg:∀l∈g,∀w∈l,0≤w∧w<(g.length:Int))(n:Nat)(hn:n≤g.length):
  ((List.range n).foldl (fun o (v:Nat)=>Q22 (v:Int) (g.getD v []) o) (List.replicate g.length [])).length =g.length∧
  tot ((List.range n).foldl (fun o (v:Nat)=>Q22 (v:Int) (g.getD v []) o) (List.replicate g.length []))≤tot (g.take n)∧
  ∀(j:Nat) (x:Int),x∈((List.range n).foldl (fun o (v:Nat)=>Q22 (v:Int) (g.getD v []) o) (List.replicate g.length [])).getD j []↔∃v:Nat,v<n∧x=(v:Int)∧(j:Int)∈g.getD v []:=by
 induction n with
 |zero=>
  refine⟨by simp,?_,fun j x=> ?_⟩
  ·have:∀k,tot (List.replicate k ([]:List Int))=0:=by
    intro k
    induction k with
    |zero=>rfl
    |succ k ih=>simp only[tot,List.replicate_succ,K14,List.sum_cons,K1q,K1k]at ih⊢;exact ih
   simp only[List.range_zero,List.foldl_nil,this]
   exact Nat.zero_le _
  ·constructor
   ·intro h
    rw[List.range_zero,List.foldl_nil,K1,K1z]at h
    split at h<;>simp at h
   ·rintro⟨v,h,_⟩;omega
 |succ n ih=>
  obtain⟨h1,h2,h3⟩:=ih (by omega)
  have hlt:n<g.length:=by omega
  have e:g.getD n []=g[n]:=by simp[K1,hlt]
  rw[List.range_succ,List.foldl_append,K16,List.foldl_nil]
  obtain⟨g1,g2,g3⟩:=Qa4 (n:Int) (g.getD n []) _ (fun w hw=>by rw[h1];exact hg _ (by rw[e];exact K3 hlt) w hw)
  refine⟨by rw[g1,h1],?_,fun j x=> ?_⟩
  ·rw[g2,K1b hlt,e]
   simp only[tot,List.map_append,List.sum_append,K14,List.map_nil,List.sum_cons,List.sum_nil]at h2⊢
   omega
  ·rw[g3,h3]
   constructor
   ·rintro(⟨v,q1,q2,q3⟩|⟨q1,q2⟩)
    ·exact⟨v,by omega,q2,q3⟩
    ·exact⟨n,by omega,q1,q2⟩
   ·rintro⟨v,q1,q2,q3⟩
    by_cases hv:v=n
    ·subst hv;exact .inr ⟨q2,q3⟩
    ·exact .inl ⟨v,by omega,q2,q3⟩
theorem Q6q(o:List (List Int)):∀l∈o,l.length≤tot o:=by
 intro l hl
 induction o with
 |nil=>cases hl
 |cons a o ih=>
  simp only[tot,K14,List.sum_cons]
  rcases Kd.1 hl with rfl|hl
  ·omega
  ·have:=ih hl
   simp only[tot]at this
   omega
theorem Qg7(o:List (List Int))(B:Nat)(h:∀l∈o,l.length≤B):tot o≤o.length*B:=by
 induction o with
 |nil=>simp[tot]
 |cons a o ih=>
  have h1:=h a Kk
  have h2:=ih fun l hl=>h l (K9 _ hl)
  simp only[tot,K14,List.sum_cons,Kp,Nat.succ_mul]at h2⊢
  omega
theorem Q1z{g:List (List Int)}(hg:∀l∈g,∀w∈l,0≤w∧w<(g.length:Int))(j:Nat)(x:Int):x∈(Qf g).getD j []↔∃v:Nat,v<g.length∧x=(v:Int)∧(j:Int)∈g.getD v []:=(Q1b g hg g.length (Ky _)).2.2 j x
theorem Q54{m:Nat}{g:List (List Int)}(hG:Gr m g)(hs:∀l∈g,l.length≤2000):Gr m (Qf g):=by
 have hg:∀l∈g,∀w∈l,0≤w∧w<(g.length:Int):=by rw[hG.len];exact hG.inn
 obtain⟨h1,h2,h3⟩:=Q1b g hg g.length (Ky _)
 have hsm:=hG.small
 refine⟨by rw[←hG.len];exact h1,fun l hl w hw=> ?_,fun l hl=> ?_,hsm⟩
 ·obtain⟨j,hj,rfl⟩:=List.getElem_of_mem hl
  have e:(Qf g).getD j []=(Qf g)[j]:=by simp[K1,hj]
  rw[←e]at hw
  obtain⟨v,hv,rfl,_⟩:=(Q1z hg j w).1 hw
  rw[←hG.len]
  exact⟨Int.natCast_nonneg _,by omega⟩
 ·have q1:=Q6q _ l hl
  have q2:=Qg7 g 2000 hs
  rw[K1i (Ky _)]at h2
  have q3:tot (Qf g)≤tot g:=h2
  rw[hG.len]at q2
  have:m*2000≤10000*2000:=Ku _ hsm
  omega
theorem Qe3(t11:Bool×List (Bool×List Int))(t12:Int)(t13:Int)(v:Int)(b:Bool)(m:Nat)(hm:m≤10000)(r:Bool×List Int)(hr:r.2.length≤20000000)(hw:∀w∈r.2,0≤w∧w<(m:Int))(d:Nat):∀(i:Nat) (R:List (Bool×List Int)),i+d=r.2.length→R.length=m→tot (R.map Prod.snd)+d≤200000000→
  ∃R':List (Bool×List Int),R'.length=m∧R'.map Prod.snd=Q22 v (r.2.drop i) (R.map Prod.snd)∧F9r (b,R) v t11 t12 t13 r (r.2.length:Int) (i:Int)=some (b,R')∧F7u (b,R) v t11 t12 t13 r (r.2.length:Int) (i:Int)=some (b,R'):=by
 have hlim:=J5
 induction d with
 |zero=>
  intro i R hi hR ht
  exact⟨R,hR,by rw[K8 (by omega)];rfl,by rw[F9rE,gF (by omega)],by rw[F7uE,gF (by omega)]⟩
 |succ d ih=>
  intro i R hi hR ht
  have hlt:i<r.2.length:=by omega
  have hx:=hw _ (K3 hlt)
  have hj:Int.toNat r.2[i]<R.length:=by omega
  have hrow:((R.getD (Int.toNat r.2[i]) (true,[])).2).length ≤tot (R.map Prod.snd):=by
   refine Q6q _ _ (Kv.2 ⟨R.getD (Int.toNat r.2[i]) (true,[]),?_,rfl⟩)
   have e:R.getD (Int.toNat r.2[i]) (true,[])=R[Int.toNat r.2[i]]:=by simp[K1,hj]
   rw[e]
   exact K3 _
  have esnd:(R.map Prod.snd).getD (Int.toNat r.2[i]) []=(R.getD (Int.toNat r.2[i]) (true,[])).2 :=by simp[K1,hj]
  have emap:(R.set (Int.toNat r.2[i]) ((R.getD (Int.toNat r.2[i]) (true,[])).1 &&false,(R.getD (Int.toNat r.2[i]) (true,[])).2 ++[v])).map Prod.snd=(R.map Prod.snd).set (Int.toNat r.2[i]) ((R.map Prod.snd).getD (Int.toNat r.2[i]) []++[v]):=by
   rw[List.map_set,esnd]
  have htot:tot ((R.set (Int.toNat r.2[i]) ((R.getD (Int.toNat r.2[i]) (true,[])).1 &&false,(R.getD (Int.toNat r.2[i]) (true,[])).2 ++[v])).map Prod.snd)=tot (R.map Prod.snd)+1:=by
   rw[emap]
   exact Qdy _ _ _ (by simpa using hj)
  obtain⟨R',g1,g2,g3,g4⟩:=ih (i+1) (R.set (Int.toNat r.2[i]) ((R.getD (Int.toNat r.2[i]) (true,[])).1 &&false,(R.getD (Int.toNat r.2[i]) (true,[])).2 ++[v])) (by omega) (by rw[Ko];exact hR) (by rw[htot];omega)
  refine⟨R',g1,?_,?_,?_⟩
  ·rw[g2,emap,K2 hlt,Q22,Q22,K16]
  ·rw[F9rE,gT (by omega),gT (by omega),gT (by omega),J2 r.2 _ i hlt,gT hx.1,gT (by simp only;omega),gT (by simp only[K1g];omega),gT hx.1,gT (by simp only;omega),bT (by simp),up1 i (by omega),J1,g3]
  ·rw[F7uE,gT (by omega),gT (by omega),gT (by omega),J2 r.2 _ i hlt,gT hx.1,gT (by simp only;omega),gT (by simp only[K1g];omega),gT hx.1,gT (by simp only;omega),bT (by simp),up1 i (by omega),J1,g4]
theorem Q3k{m:Nat}{G:List (List Int)}(hG:Gr m G)(hs:∀l∈G,l.length≤2000)(gb:Bool){R:List (Bool×List Int)}(hR:R.map Prod.snd=G):∃R':List (Bool×List Int),R'.map Prod.snd=Qf G∧F1l (gb,R)=some (false,R')∧F13 (gb,R)=some (false,R'):=by
 have hlim:=J5
 have hsm:=hG.small
 have hRl:R.length=m:=by rw[←hG.len,←hR,Ki]
 have hg:∀l∈G,∀w∈l,0≤w∧w<(G.length:Int):=by rw[hG.len];exact hG.inn
 have ht:∀n,n≤m→tot (G.take n)≤20000000:=by
  intro n hn
  have q:=Qg7 (G.take n) 2000 fun l hl=>hs l (List.mem_of_mem_take hl)
  have q2:(G.take n).length ≤10000:=by rw[K1u,hG.len];omega
  have:(G.take n).length *2000≤10000*2000:=Ku _ q2
  omega
 have key:∀(d i:Nat) (Q:List (Bool×List Int)),i+d=m→Q.length=m→Q.map Prod.snd=(List.range i).foldl (fun o (v:Nat)=>Q22 (v:Int) (G.getD v []) o) (List.replicate G.length [])→
   ∃R':List (Bool×List Int),R'.map Prod.snd=Qf G∧F7q (false,Q) (gb,R) (m:Int) (i:Int)=some (false,R')∧F8c (false,Q) (gb,R) (m:Int) (i:Int)=some (false,R'):=by
  intro d
  induction d with
  |zero=>
   intro i Q hi hQ hq
   obtain rfl:i=m:=by omega
   exact⟨Q,by rw[hq,Qf,hG.len],by rw[F7qE,gF (by omega)],by rw[F8cE,gF (by omega)]⟩
  |succ d ih=>
   intro i Q hi hQ hq
   have hlt:i<G.length:=by rw[hG.len];omega
   obtain⟨r1,r2,r3⟩:=Q2a hR hlt
   obtain⟨f1,f2,_⟩:=Q1b G hg i (by omega)
   have hti:=ht i (by omega)
   have hsh:=hs _ r3
   obtain⟨Q',g1,g2,g3,g4⟩:=Qe3 (gb,R) (m:Int) (i:Int) (i:Int) false m hsm (R.getD i (true,[])) (by rw[r2];omega) (by rw[r2];exact hG.inn _ r3) (R.getD i (true,[])).2.length 0 Q (by omega) hQ (by rw[hq,r2];omega)
   have g3':F9r (false,Q) (i:Int) (gb,R) (m:Int) (i:Int) (R.getD i (true,[])) ((R.getD i (true,[])).2.length :Int) 0=_:=g3
   have g4':F7u (false,Q) (i:Int) (gb,R) (m:Int) (i:Int) (R.getD i (true,[])) ((R.getD i (true,[])).2.length :Int) 0=_:=g4
   obtain⟨R',k1,k2,k3⟩:=ih (i+1) Q' (by omega) g1 (by rw[g2,Kf,r2,hq,List.range_succ,List.foldl_append];rfl)
   refine⟨R',k1,?_,?_⟩
   ·rw[F7qE,gT (by omega),gT (by omega),gT (by simp only;omega),K5]
    simp only[g3',J0]
    rw[up1 i (by omega),J1,k2]
   ·rw[F8cE,gT (by omega),gT (by omega),gT (by simp only;omega),K5]
    simp only[g4',J0]
    rw[up1 i (by omega),J1,k3]
 have hrep:(List.replicate m ((true,[]):Bool×List Int)).map Prod.snd=List.replicate m []:=by simp
 obtain⟨R',k1,k2,k3⟩:=key m 0 (List.replicate m (true,[])) (by omega) (by simp) (by rw[hrep,hG.len];rfl)
 have k2':F7q (false,List.replicate m (true,[])) (gb,R) (m:Int) 0=_:=k2
 have k3':F8c (false,List.replicate m (true,[])) (gb,R) (m:Int) 0=_:=k3
 refine⟨R',k1,?_,?_⟩
 ·rw[F1lE]
  simp only[hRl,K5]
  rw[gT (by omega),gT (by omega),gT (by omega),gT (by omega),k2',J0]
 ·rw[F13E]
  simp only[hRl,K5]
  rw[gT (by omega),gT (by omega),gT (by omega),gT (by omega),k3',J0]
def Qu(s:List Int)(best v:Int):Int:=if s.getD v.toNat 0≥0 then(if best<0 then v else if s.getD v.toNat 0<s.getD best.toNat 0 then v else best)else best
def Q13(s l:List Int):Int:=l.foldl (Qu s) (-1)
theorem Q7t(g:Bool×List (Bool×List Int))(b:Bool)(s:List Int)(l:Bool×List Int)(hl:l.2.length≤1048576)(hw:∀w∈l.2,0≤w∧w<(s.length:Int)):
  F4h g (b,s) (-1) l (l.2.length:Int) 0=some (Q13 s l.2)∧F4c g (b,s) (-1) l (l.2.length:Int) 0=some (Q13 s l.2)∧(Q13 s l.2<0∨(Q13 s l.2<(s.length:Int)∧0≤s.getD (Q13 s l.2).toNat 0)):=by
 have hin:∀(i:Nat) (h:i<l.2.length) (best:Int),(best<0∨(best<(s.length:Int)∧0≤s.getD best.toNat 0))→(Qu s best l.2[i]<0∨(Qu s best l.2[i]<(s.length:Int)∧0≤s.getD (Qu s best l.2[i]).toNat 0)):=by
  intro i h best hb
  have hx:=hw _ (K3 h)
  unfold Qu
  split
  ·split
   ·exact .inr ⟨hx.2,by omega⟩
   ·split
    ·exact .inr ⟨hx.2,by omega⟩
    ·exact hb
  ·exact hb
 refine⟨?_,?_,?_⟩
 ·exact Jy l.2 (Qu s) (fun b=>b) (fun best i=>F4h g (b,s) best l (l.2.length:Int) i) (fun _ best=>best<0∨(best<(s.length:Int)∧0≤s.getD best.toNat 0)) (fun i h best hb=>by
   have hx:=hw _ (K3 h)
   refine⟨?_,hin i h best hb⟩
   rw[F4hE,gT (by omega),gT (by omega),gT (by omega),J2 l.2 _ i h,gT hx.1,gT (by simp only;omega),up1 i (by omega)]
   unfold Qu
   by_cases c1:s.getD (Int.toNat l.2[i]) 0≥0
   ·rw[gT c1,if_pos c1]
    by_cases c2:best<0
    ·rw[gT c2,if_pos c2,J1]
    ·have hb2:=hb.resolve_left c2
     rw[gF c2,if_neg c2,gT hx.1,gT (by simp only;omega),gT (by omega),gT (by simp only;omega)]
     by_cases c3:s.getD (Int.toNat l.2[i]) 0<s.getD (Int.toNat best) 0
     ·rw[gT c3,if_pos c3,J1]
     ·rw[gF c3,if_neg c3,J1]
   ·rw[gF c1,if_neg c1,J1]) (fun best _=>by rw[F4hE,gF (by omega)]) (-1) (.inl (by decide))
 ·exact Jy l.2 (Qu s) (fun b=>b) (fun best i=>F4c g (b,s) best l (l.2.length:Int) i) (fun _ best=>best<0∨(best<(s.length:Int)∧0≤s.getD best.toNat 0)) (fun i h best hb=>by
   have hx:=hw _ (K3 h)
   refine⟨?_,hin i h best hb⟩
   rw[F4cE,gT (by omega),gT (by omega),gT (by omega),J2 l.2 _ i h,gT hx.1,gT (by simp only;omega),up1 i (by omega)]
   unfold Qu
   by_cases c1:s.getD (Int.toNat l.2[i]) 0≥0
   ·rw[gT c1,if_pos c1]
    by_cases c2:best<0
    ·rw[gT c2,if_pos c2,J1]
    ·have hb2:=hb.resolve_left c2
     rw[gF c2,if_neg c2,gT hx.1,gT (by simp only;omega),gT (by omega),gT (by simp only;omega)]
     by_cases c3:s.getD (Int.toNat l.2[i]) 0<s.getD (Int.toNat best) 0
     ·rw[gT c3,if_pos c3,J1]
     ·rw[gF c3,if_neg c3,J1]
   ·rw[gF c1,if_neg c1,J1]) (fun best _=>by rw[F4cE,gF (by omega)]) (-1) (.inl (by decide))
 ·have key:∀(l:List Int),(∀w∈l,0≤w∧w<(s.length:Int))→∀best:Int,(best<0∨(best<(s.length:Int)∧0≤s.getD best.toNat 0))→(l.foldl (Qu s) best<0∨(l.foldl (Qu s) best<(s.length:Int)∧0≤s.getD (l.foldl (Qu s) best).toNat 0)):=by
   intro l
   induction l with
   |nil=>intro _ best h;exact h
   |cons a l ih=>
    intro hw best hb
    rw[K16]
    refine ih (fun w h=>hw w (K9 _ h)) _ ?_
    have hx:=hw a Kk
    unfold Qu
    split
    ·split
     ·exact .inr ⟨hx.2,by omega⟩
     ·split
      ·exact .inr ⟨hx.2,by omega⟩
      ·exact hb
    ·exact hb
  exact key l.2 hw (-1) (.inl (by decide))
def Q20(g:List (List Int))(s:List Int)(v:Int):Int:=((g.getD v.toNat []).find? fun w=>s.getD w.toNat 0==s.getD v.toNat 0-1).getD v
def wayL(g:List (List Int))(s:List Int):Nat→Int→List Int→List Int
 |0,_,out=>out
 |n+1,v,out=>if s.getD v.toNat 0>0 then wayL g s n (Q20 g s v) (out++[Q20 g s v])else out
theorem Qgy(nx:Bool×List (Bool×List Int))(b:Bool)(s:List Int)(best:Int)(hb:0≤best∧best<(s.length:Int))(h0: -10≤s.getD best.toNat 0∧s.getD best.toNat 0≤200000000)(out:Bool×List Int)(r:Bool×List Int)(hr:r.2.length≤20000000)(hw:∀w∈r.2,0≤w∧w<(s.length:Int))(d:Nat):∀(i:Nat),i+d=r.2.length→
  F9m nx (b,s) best out r (r.2.length:Int) (i:Int)=some (((r.2.drop i).find? fun w=>s.getD w.toNat 0==s.getD best.toNat 0-1).getD best):=by
 induction d with
 |zero=>
  intro i hi
  rw[F9mE,gF (by omega),K8 (by omega)]
  rfl
 |succ d ih=>
  intro i hi
  have hlt:i<r.2.length:=by omega
  have hx:=hw _ (K3 hlt)
  rw[F9mE,gT (by omega),gT (by omega),gT (by omega),J2 r.2 _ i hlt,gT hx.1,gT (by simp only;omega),gT hb.1,gT (by simp only;omega),wr (by simp only;omega),up1 i (by omega),K2 hlt,List.find?_cons]
  simp only
  cases hh:(s.getD (Int.toNat r.2[i]) 0==s.getD (Int.toNat best) 0-1)with
  |true=>rfl
  |false=>rw[cond_false,J1,ih (i+1) (by omega)]
theorem Q3b{l:List Int}{i:Nat}(h:i<l.length):l.getD i 0=l[i]:=by simp[K1,h]
theorem Qev{α:Type}(q:α→Bool)(l:List α)(h:l.findIdx q<l.length):l.find? q=some (l[l.findIdx q]'h):=by
 induction l with
 |nil=>simp at h
 |cons a l ih=>
  rw[List.find?_cons]
  cases hq:q a with
  |true=>simp[List.findIdx_cons,hq]
  |false=>
   simp only[List.findIdx_cons,hq,cond_false,Kp]at h⊢
   rw[ih (by omega)]
   rfl
theorem Qbd(s:List Int)(b:Bool)(best:Int)(hb:0≤best∧best<(s.length:Int))(h0: -10≤s.getD best.toNat 0∧s.getD best.toNat 0≤200000000)(r:Bool×List Int)(hr:r.2.length≤20000000)(hw:∀w∈r.2,0≤w∧w<(s.length:Int))(hex:∃u∈r.2,s.getD u.toNat 0=s.getD best.toNat 0-1):
  ∃k:Nat,k<r.2.length∧F2w r ((b,s),(best,()))=some (k:Int)∧r.2.getD k 0=(r.2.find? fun w=>s.getD w.toNat 0==s.getD best.toNat 0-1).getD best∧r.2.getD k 0∈r.2∧s.getD (r.2.getD k 0).toNat 0=s.getD best.toNat 0-1:=by
 have h:=Ja r.2 (fun w=>s.getD w.toNat 0==s.getD best.toNat 0-1) (fun i=>F7v r ((b,s),(best,())) (r.2.length:Int) i) (fun i hi=>by
  have hx:=hw _ (K3 hi)
  rw[F7vE,gT (by omega),gT (by omega),gT (by omega),J2 r.2 _ i hi,F76E,gT hx.1,gT (by simp only;omega),gT hb.1,gT (by simp only;omega),wr (by simp only;omega),J0,up1 i (by omega),J1]) (by rw[F7vE,gF (by omega)])
 obtain⟨u,hu,hu2⟩:=hex
 have hany:(r.2.any fun w=>s.getD w.toNat 0==s.getD best.toNat 0-1)=true:=Kw.2 ⟨u,hu,by rw[beq_iff_eq];exact hu2⟩
 have hk:r.2.findIdx (fun w=>s.getD w.toNat 0==s.getD best.toNat 0-1)<r.2.length:=List.findIdx_lt_length.2 (Kw.1 hany)
 have hg:=List.findIdx_getElem (p:=fun w:Int=>s.getD w.toNat 0==s.getD best.toNat 0-1) (xs:=r.2) (w:=hk)
 refine⟨_,hk,?_,?_,?_,?_⟩
 ·rw[F2wE]
  show((F7v r ((b,s),(best,())) (r.2.length:Int) 0).bind _)=_
  rw[h,hany]
  rfl
 ·have e:r.2.getD (r.2.findIdx fun w=>s.getD w.toNat 0==s.getD best.toNat 0-1) 0=r.2[r.2.findIdx fun w=>s.getD w.toNat 0==s.getD best.toNat 0-1]:=Q3b hk
  rw[e]
  have:=Qev (fun w:Int=>s.getD w.toNat 0==s.getD best.toNat 0-1) r.2 hk
  rw[this]
  rfl
 ·have e:r.2.getD (r.2.findIdx fun w=>s.getD w.toNat 0==s.getD best.toNat 0-1) 0=r.2[r.2.findIdx fun w=>s.getD w.toNat 0==s.getD best.toNat 0-1]:=Q3b hk
  rw[e]
  exact K3 _
 ·have e:r.2.getD (r.2.findIdx fun w=>s.getD w.toNat 0==s.getD best.toNat 0-1) 0=r.2[r.2.findIdx fun w=>s.getD w.toNat 0==s.getD best.toNat 0-1]:=Q3b hk
  rw[e]
  exact beq_iff_eq.1 hg
theorem Q7s{m:Nat}{G:List (List Int)}(hG:Gr m G)(gb gb2:Bool){R R2:List (Bool×List Int)}(hR:R.map Prod.snd=G)(hR2:R2.map Prod.snd=G)(s:List Int)(hs:s.length=m)(hlo:∀e∈s,-1≤e∧e≤10000)(hP:∀v:Nat,v<m→0<s.getD v 0→∃u∈G.getD v [],s.getD u.toNat 0=s.getD v 0-1)(n:Nat):∀(v:Int) (out:List Int) (b b2:Bool),0≤v∧v<(m:Int)→s.getD v.toNat 0≤n→out.length+n≤200000000→
  F81 (gb,R) (b,s) (false,out) v=some (false,wayL G s n v out)∧F93 (gb2,R2) (b2,s) v (false,out)=some (false,wayL G s n v out)∧(wayL G s n v out).length ≤out.length+n:=by
 have hlim:=J5
 have hsm:=hG.small
 induction n with
 |zero=>
  intro v out b b2 hv hn ho
  refine⟨?_,?_,Ky _⟩
  ·rw[F81E,gT hv.1,gT (by simp only;omega),gF (by simp only;omega)]
   rfl
  ·rw[F93E,gT hv.1,gT (by simp only;omega),gF (by simp only;omega)]
   rfl
 |succ n ih=>
  intro v out b b2 hv hn ho
  by_cases c:s.getD v.toNat 0>0
  ·have hvl:v.toNat<s.length:=by omega
   have hb:=hlo _ (Q2y hvl)
   have hvG:v.toNat<G.length:=by rw[hG.len];omega
   obtain⟨r1,r2,r3⟩:=Q2a hR hvG
   obtain⟨r4,r5,_⟩:=Q2a hR2 hvG
   have hin:=hG.inn _ r3
   have hsh:=hG.short _ r3
   have hRl:R.length=m:=by rw[←hG.len,←hR,Ki]
   have hRl2:R2.length=m:=by rw[←hG.len,←hR2,Ki]
   obtain⟨u,hu,hu2⟩:=hP v.toNat (by omega) c
   obtain⟨k,k1,k2,k3,k4,k5⟩:=Qbd s b v (by omega) (by omega) (R.getD v.toNat (true,[])) (by rw[r2];exact hsh) (by rw[r2];intro w hw;have:=hin w hw;omega) (by rw[r2];exact⟨u,hu,hu2⟩)
   have hnear:Q20 G s v=(R.getD v.toNat (true,[])).2.getD k 0:=by
    rw[k3,r2];rfl
   rw[r2]at k4
   have hnin:=hin _ k4
   have hval:s.getD (Q20 G s v).toNat 0=s.getD v.toNat 0-1:=by rw[hnear];exact k5
   have hnn:0≤Q20 G s v∧Q20 G s v<(m:Int):=by rw[hnear,r2];exact hnin
   obtain⟨i1,i2,i3⟩:=ih (Q20 G s v) (out++[Q20 G s v]) b b2 hnn (by omega) (by simp;omega)
   have ew:wayL G s (n+1) v out=wayL G s n (Q20 G s v) (out++[Q20 G s v]):=by rw[wayL,if_pos c]
   rw[ew]
   refine⟨?_,?_,by simp at i3;omega⟩
   ·rw[F81E,gT hv.1,gT (by simp only;omega),gT c,gT hv.1,gT (by simp only;omega),k2,J0,gT hv.1,gT (by simp only;omega),gT (by omega),gT (by simp only;omega),K5,←hnear,gT (by simp;omega),J1,K24,i1]
   ·have e4:=Qgy (gb2,R2) b2 s v (by omega) (by omega) (false,out) (R2.getD v.toNat (true,[])) (by rw[r5];exact hsh) (by rw[r5];intro w hw;have:=hin w hw;omega) (R2.getD v.toNat (true,[])).2.length 0 (by omega)
    rw[Kf]at e4
    have e4':F9m (gb2,R2) (b2,s) v (false,out) (R2.getD v.toNat (true,[])) ((R2.getD v.toNat (true,[])).2.length :Int) 0=some (Q20 G s v):=by
     refine Eq.trans e4 ?_
     rw[r5]
     rfl
    rw[F93E,gT hv.1,gT (by simp only;omega),gT c,gT hv.1,gT (by simp only;omega)]
    simp only[e4',J0]
    rw[gT (by simp;omega),J1,K24,i2]
  ·have ew:wayL G s (n+1) v out=out:=by rw[wayL,if_neg c]
   rw[ew]
   refine⟨?_,?_,by omega⟩
   ·rw[F81E,gT hv.1,gT (by simp only;omega),gF c]
   ·rw[F93E,gT hv.1,gT (by simp only;omega),gF c]
def Q17(G:List (List Int))(from_ to:List Int):Option (List Int):=
 let s:=farL (Qf G) to
 if Q13 s from_<0 then none else some (wayL G s G.length (Q13 s from_) [Q13 s from_])

end Go.Proofs.YtedfhboklcfanaaGreat.R
