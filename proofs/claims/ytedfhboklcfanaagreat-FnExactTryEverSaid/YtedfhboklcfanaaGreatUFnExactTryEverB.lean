/- The plain law of FnExactTryEver:what the two functions compute is the same. -/
import Derived.Test.YtedfhboklcfanaaGreatUFnExactTryEverA
import Derived.Laws.MathBits
set_option linter.all false
namespace Go.Proofs.YtedfhboklcfanaaGreat.R
open Go.Rf
theorem Q1y{m:Nat}{G:List (List Int)}(hG:Gr m G)(hs:∀l∈G,l.length≤2000)(hm:1≤m)(gb gb2 fb fb2 tb:Bool){R R2:List (Bool×List Int)}(hR:R.map Prod.snd=G)(hR2:R2.map Prod.snd=G)(fr to:List Int)(hf:fr.length≤10000)(hfw:∀w∈fr,0≤w∧w<(m:Int))(ht:to.length≤10000)(htw:∀w∈to,0≤w∧w<(m:Int))(ob:Bool)(hob:ob=true→to=[]):
  Fi (gb,R) (fb,fr) (ob,to)=some (match Q17 G fr to with
   |some l=>(false,l)
   |none=>(true,[]))∧Fg (gb2,R2) (fb2,fr) (tb,to)=some (match Q17 G fr to with
   |some l=>((false,l),true)
   |none=>((true,[]),false))∧∀l,Q17 G fr to=some l→l.length≤100000:=by
 have hT:=Q54 hG hs
 have hsm:=hG.small
 have hg:∀l∈G,∀w∈l,0≤w∧w<(G.length:Int):=by rw[hG.len];exact hG.inn
 obtain⟨Q,q1,q2,_⟩:=Q3k hG hs gb hR
 obtain⟨Q2,p1,_,p3⟩:=Q3k hG hs gb2 hR2
 have e1:=Q6v hT hm false q1 to ht htw ob hob
 have e2:=Qg3 hT false tb p1 to ht htw
 have hI:=Qab hT to ht htw
 have hP:=Q81 hT to htw
 have hlen:=hI.len
 obtain⟨b1,_,b3⟩:=Q7t (gb,R) false (farL (Qf G) to) (fb,fr) (by simp only;omega) (by rw[hlen];exact hfw)
 obtain⟨_,b2,_⟩:=Q7t (gb2,R2) false (farL (Qf G) to) (fb2,fr) (by simp only;omega) (by rw[hlen];exact hfw)
 have hlo:∀e∈farL (Qf G) to,-1≤e∧e≤10000:=fun e he=>⟨hI.low e he,by have:=hI.high e he;omega⟩
 have hP2:∀v:Nat,v<m→0<(farL (Qf G) to).getD v 0→∃u∈G.getD v [],(farL (Qf G) to).getD u.toNat 0=(farL (Qf G) to).getD v 0-1:=by
  intro v hv h0
  obtain⟨u,u1,u2,u3⟩:=hP v (by omega) h0
  obtain⟨v',_,hv2,hv3⟩:=(Q1z hg u (v:Int)).1 u2
  have:v'=v:=by omega
  subst this
  exact⟨(u:Int),hv3,by rw[K5];exact u3⟩
 have hbest:∀(c:¬Q13 (farL (Qf G) to) fr<0),0≤Q13 (farL (Qf G) to) fr∧Q13 (farL (Qf G) to) fr<(m:Int)∧(farL (Qf G) to).getD (Q13 (farL (Qf G) to) fr).toNat 0≤(m:Int):=by
  intro c
  have h2:=b3.resolve_left c
  have hmem:=Q2y (s:=farL (Qf G) to) (i:=(Q13 (farL (Qf G) to) fr).toNat) (by simp only at h2;omega)
  have:=hI.high _ hmem
  simp only at h2
  exact⟨by omega,by omega,by omega⟩
 have e1':Fm (false,Q) (ob,to)=_:=e1
 refine⟨?_,?_,?_⟩
 ·rw[FiE,q2,J0,e1',J0,b1,J0,Q17]
  simp only
  by_cases c:Q13 (farL (Qf G) to) fr<0
  ·rw[gT c,if_pos c]
  ·obtain⟨w0,w1,w2⟩:=hbest c
   obtain⟨i1,_,_⟩:=Q7s hG gb gb2 hR hR2 (farL (Qf G) to) hlen hlo hP2 m (Q13 (farL (Qf G) to) fr) [Q13 (farL (Qf G) to) fr] false false ⟨w0,w1⟩ w2 (by simp;omega)
   rw[gF c,if_neg c,i1,J0,hG.len]
 ·rw[FgE,p3,J0,e2,J0,b2,J0,Q17]
  simp only
  by_cases c:Q13 (farL (Qf G) to) fr<0
  ·rw[gT c,if_pos c]
  ·obtain⟨w0,w1,w2⟩:=hbest c
   obtain⟨_,i2,_⟩:=Q7s hG gb gb2 hR hR2 (farL (Qf G) to) hlen hlo hP2 m (Q13 (farL (Qf G) to) fr) [Q13 (farL (Qf G) to) fr] false false ⟨w0,w1⟩ w2 (by simp;omega)
   rw[gF c,if_neg c,i2,J0,hG.len]
 ·intro l hl
  unfold Q17 at hl
  by_cases c:Q13 (farL (Qf G) to) fr<0
  ·rw[if_pos c]at hl;cases hl
  ·rw[if_neg c,hG.len]at hl
   obtain⟨w0,w1,w2⟩:=hbest c
   obtain⟨_,_,i3⟩:=Q7s hG gb gb2 hR hR2 (farL (Qf G) to) hlen hlo hP2 m (Q13 (farL (Qf G) to) fr) [Q13 (farL (Qf G) to) fr] false false ⟨w0,w1⟩ w2 (by simp;omega)
   rw[←Option.some.inj hl]
   simp at i3
   omega
def Qc(op:Int):Int:=if op=1∨op=2 then 0 else if op=3∨op=4 then 1 else if 5≤op∧op≤8 then 2 else -1
theorem Q94(a b:Int):(a==b)=decide (a=b):=rfl
theorem Q35(op:Int):F50 op=some (Qc op):=by
 rw[F50E,Qc]
 by_cases h:1≤op∧op≤8
 ·have:op=1∨op=2∨op=3∨op=4∨op=5∨op=6∨op=7∨op=8:=by omega
  rcases this with rfl|rfl|rfl|rfl|rfl|rfl|rfl|rfl<;>rfl
 ·rw[beqF (show¬op=1 by omega),beqF (show¬op=2 by omega),beqF (show¬op=3 by omega),beqF (show¬op=4 by omega),beqF (show¬op=5 by omega),beqF (show¬op=6 by omega),beqF (show¬op=7 by omega),beqF (show¬op=8 by omega),if_neg (by omega),if_neg (by omega),if_neg (by omega)]
  rfl
theorem Q34(op:Int):F4d op=some (Qc op):=by
 rw[F4dE,Qc]
 by_cases h:1≤op∧op≤8
 ·have:op=1∨op=2∨op=3∨op=4∨op=5∨op=6∨op=7∨op=8:=by omega
  rcases this with rfl|rfl|rfl|rfl|rfl|rfl|rfl|rfl<;>rfl
 ·rw[beqF (show¬op=1 by omega),beqF (show¬op=2 by omega),beqF (show¬op=3 by omega),beqF (show¬op=4 by omega),beqF (show¬op=5 by omega),beqF (show¬op=6 by omega),beqF (show¬op=7 by omega),beqF (show¬op=8 by omega),if_neg (by omega),if_neg (by omega),if_neg (by omega)]
  rfl
theorem Q7k(op:Int): -1≤Qc op∧Qc op≤2:=by
 unfold Qc
 split
 ·omega
 ·split
  ·omega
  ·split<;>omega
def Q1o(x:DSaid):Bool:=if x.1=1 then decide (0≤x.2∧x.2≤2)else if x.1=2 then decide (0≤x.2∧x.2≤1)else decide (0<Qc x.1)&&decide (x.2=0)
theorem Qhk(x:DSaid):F77 x=some (Q1o x):=by
 rw[F77E,Q1o]
 by_cases h1:x.1=1
 ·rw[bT (by rw[beq_iff_eq];exact h1),if_pos h1]
  by_cases c:x.2≥0
  ·rw[gT c]
   congr 1
   exact decide_eq_decide.mpr ⟨fun h=>⟨c,by omega⟩,fun h=>by omega⟩
  ·rw[gF c,decide_eq_false (by omega)]
 ·rw[bF (beqF h1),if_neg h1]
  by_cases h2:x.1=2
  ·rw[bT (by rw[beq_iff_eq];exact h2),if_pos h2]
   by_cases c:x.2=0
   ·rw[bT (by rw[beq_iff_eq];exact c),decide_eq_true (by omega)]
   ·rw[bF (beqF c),Q94]
    congr 1
    exact decide_eq_decide.mpr ⟨fun h=>by omega,fun h=>by omega⟩
  ·rw[bF (beqF h2),if_neg h2,Q34,J0]
   by_cases c:Qc x.1>0
   ·rw[gT c,decide_eq_true (show 0<Qc x.1 from c),Kz,Q94]
   ·rw[gF c,decide_eq_false (show¬0<Qc x.1 from c),K1w]
theorem l10N(x:DSaid):F3x x=some (if x.1=1 then decide (0≤x.2∧x.2≤2)else if x.1=2 then decide (0≤x.2∧x.2≤1)else decide (x.2=0)):=by
 rw[F3xE]
 by_cases h1:x.1=1
 ·rw[bT (by rw[beq_iff_eq];exact h1),if_pos h1,Q1x,J0]
 ·rw[bF (beqF h1),if_neg h1]
  by_cases h2:x.1=2
  ·rw[bT (by rw[beq_iff_eq];exact h2),if_pos h2,Q1x,J0]
  ·rw[bF (beqF h2),if_neg h2,Q94]
def Q3z:List DSaid→Int→Option Int
 |[],v=>some v
 |x::l,v=>if Q1o x=true∧Qc x.1≤v then Q3z l (v+(1-Qc x.1))else none
def Qw(f:List DSaid):Bool:=decide (1≤(f.length:Int)∧(f.length:Int)≤16)&&(Q3z f 0==some 1)
theorem Qgz(f:Bool×List DSaid)(hl:f.2.length≤1000)(d:Nat):∀(i:Nat) (v:Int),i+d=f.2.length→0≤v∧v≤2*i→
  (∃x,F8g v f (f.2.length:Int) (i:Int)=some x∧F8d v f (f.2.length:Int) (i:Int)=some x∧x=match Q3z (f.2.drop i) v with
   |some z=> .inr z
   |none=> .inl false):=by
 induction d with
 |zero=>
  intro i v hi hv
  rw[F8gE,F8dE,gF (by omega),gF (by omega),K8 (by omega)]
  exact⟨_,rfl,rfl,rfl⟩
 |succ d ih=>
  intro i v hi hv
  have hlt:i<f.2.length:=by omega
  have hn:=Q7k f.2[i].1
  have ei:F8g v f (f.2.length:Int) (i:Int)=(bif !Q1o f.2[i]then some (.inl false)else bif decide (v<Qc f.2[i].1)then some (.inl false)else F8g (v+(1-Qc f.2[i].1)) f (f.2.length:Int) ((i+1:Nat):Int)):=by
   rw[F8gE,gT (by omega),gT (by omega),gT (by omega),J2 f.2 _ i hlt,Q34,J0,Qhk,J0,wr (n:=1-Qc f.2[i].1) (by omega),wr (n:=v+(1-Qc f.2[i].1)) (by omega),up1 i (by omega),J1]
  have es:F8d v f (f.2.length:Int) (i:Int)=(bif !Q1o f.2[i]then some (.inl false)else bif decide (v<Qc f.2[i].1)then some (.inl false)else F8d (v+(1-Qc f.2[i].1)) f (f.2.length:Int) ((i+1:Nat):Int)):=by
   rw[F8dE,gT (by omega),gT (by omega),gT (by omega),J2 f.2 _ i hlt,Q35,J0,l10N,J0,wr (n:=1-Qc f.2[i].1) (by omega),wr (n:=v+(1-Qc f.2[i].1)) (by omega),up1 i (by omega),J1]
   unfold Q1o
   by_cases h1:f.2[i].1 =1
   ·rw[if_pos h1,if_pos h1,gF (by rw[h1];decide)]
   ·rw[if_neg h1,if_neg h1]
    by_cases h2:f.2[i].1 =2
    ·rw[if_pos h2,if_pos h2,gF (by rw[h2];decide)]
    ·rw[if_neg h2,if_neg h2]
     by_cases c:Qc f.2[i].1 <0
     ·rw[gT c,decide_eq_false (show¬0<Qc f.2[i].1 by omega)]
      rfl
     ·have:0<Qc f.2[i].1 :=by
       have h3:Qc f.2[i].1 ≠0:=by
        unfold Qc at c⊢
        rw[if_neg (by omega)]at c⊢
        split
        ·decide
        ·split<;>decide
       omega
      rw[gF c,decide_eq_true this,Kz]
  rw[ei,es,K2 hlt,Q3z]
  cases h1:Q1o f.2[i]with
  |false=>exact⟨_,rfl,rfl,by simp⟩
  |true=>
   rw[K6,cond_false,cond_false]
   by_cases c:v<Qc f.2[i].1
   ·rw[gT c,gT c,if_neg (by omega)]
    exact⟨_,rfl,rfl,rfl⟩
   ·rw[gF c,gF c,if_pos ⟨rfl,by omega⟩]
    exact ih (i+1) _ (by omega) (by omega)
theorem Q7a(f:Bool×List DSaid):F2t f=some (Qw f.2)∧F30 f=some (Qw f.2):=by
 rw[F2tE,F30E,Q1x,J0,Qw]
 by_cases c:1≤(f.2.length:Int)∧(f.2.length:Int)≤16
 ·obtain⟨x,e1,e2,e3⟩:=Qgz f (by omega) f.2.length 0 0 (by omega) (by omega)
  have e1':F8g 0 f (f.2.length:Int) 0=_:=e1
  have e2':F8d 0 f (f.2.length:Int) 0=_:=e2
  rw[gF (by omega),gF (by omega),e1',J0,decide_eq_true c,K6,cond_false,e2',J0,e3,Kf,Kz]
  cases Q3z f.2 0 with
  |none=>exact⟨rfl,rfl⟩
  |some z=>
   have e:((some z:Option Int)==some 1)=(z==1):=rfl
   rw[e]
   exact⟨rfl,rfl⟩
 ·rw[decide_eq_false c]
  refine⟨?_,rfl⟩
  by_cases c1:(f.2.length:Int)<1
  ·rw[gT c1];rfl
  ·rw[gF c1,gT (by omega)];rfl
def trk(op:Int)(i:Int):List Int:=if op=7∨op=8 then[i,i-1]else if op=4 then[i-1]else[]
def Q8y(f:List DSaid):List Int:=((f.length:Int)-1)::(List.range f.length).flatMap fun i=>trk (f.getD i (0,0)).1 (i:Int)
def Q4(f:List DSaid):List Int:=Qs (Q8y f)
theorem Qbx(op i:Int):(trk op i).length ≤2:=by
 unfold trk
 split
 ·simp
 ·split<;>simp
theorem Q7c(f:Bool×List DSaid)(hl:f.2.length≤1000)(d:Nat):∀(i:Nat) (b:Bool) (o:List Int),i+d=f.2.length→o.length≤1+2*i→
  ∃b',F44 (b,o) f (f.2.length:Int) (i:Int)=some (b',((List.range' i d).flatMap fun j=>trk (f.2.getD j (0,0)).1 (j:Int)).foldl (fun o n=>insL n o) o):=by
 induction d with
 |zero=>
  intro i b o hi ho
  rw[F44E,gF (by omega)]
  exact⟨b,rfl⟩
 |succ d ih=>
  intro i b o hi ho
  have hlt:i<f.2.length:=by omega
  have eg:f.2.getD i (0,0)=f.2[i]:=by simp[K1,hlt]
  rw[F44E,gT (by omega),gT (by omega),gT (by omega),Qj,K19,K17,List.foldl_append,wr (n:=(i:Int)-1) (by omega),up1 i (by omega)]
  have putTwo:∃b',((Ft (b,o) (i:Int)).bind fun r=>(Ft r ((i:Int)-1)).bind fun r1=>(F44 r1 f (f.2.length:Int) ((i+1:Nat):Int)).bind fun r=>some r)=some (b',((List.range' (i+1) d).flatMap fun j=>trk (f.2.getD j (0,0)).1 (j:Int)).foldl (fun o n=>insL n o) (insL ((i:Int)-1) (insL (i:Int) o))):=by
   obtain⟨f1,e1⟩:=Q9q b o (i:Int) (by omega)
   have l1:=Q11 (i:Int) o
   obtain⟨f2,e2⟩:=Q9q f1 (insL (i:Int) o) ((i:Int)-1) (by omega)
   have l2:=Q11 ((i:Int)-1) (insL (i:Int) o)
   obtain⟨b',g⟩:=ih (i+1) f2 (insL ((i:Int)-1) (insL (i:Int) o)) (by omega) (by omega)
   rw[e1,J0,e2,J0,J1,g]
   exact⟨b',rfl⟩
  by_cases c7:(f.2.getD i (0,0)).1 =7
  ·rw[bT (by rw[beq_iff_eq];exact c7),bT (by rw[beq_iff_eq];exact c7)]
   have:trk (f.2.getD i (0,0)).1 (i:Int)=[(i:Int),(i:Int)-1]:=by unfold trk;rw[if_pos (.inl c7)]
   rw[this]
   exact putTwo
  ·rw[bF (beqF c7)]
   by_cases c8:(f.2.getD i (0,0)).1 =8
   ·rw[bT (by rw[beq_iff_eq];exact c8)]
    have:trk (f.2.getD i (0,0)).1 (i:Int)=[(i:Int),(i:Int)-1]:=by unfold trk;rw[if_pos (.inr c8)]
    rw[this]
    exact putTwo
   ·rw[bF (beqF c8)]
    by_cases c4:(f.2.getD i (0,0)).1 =4
    ·rw[bT (by rw[beq_iff_eq];exact c4)]
     have:trk (f.2.getD i (0,0)).1 (i:Int)=[(i:Int)-1]:=by unfold trk;rw[if_neg (by omega),if_pos c4]
     rw[this]
     obtain⟨f1,e1⟩:=Q9q b o ((i:Int)-1) (by omega)
     have l1:=Q11 ((i:Int)-1) o
     obtain⟨b',g⟩:=ih (i+1) f1 (insL ((i:Int)-1) o) (by omega) (by omega)
     rw[e1,J0,J1,g]
     exact⟨b',rfl⟩
    ·rw[bF (beqF c4)]
     have:trk (f.2.getD i (0,0)).1 (i:Int)=[]:=by unfold trk;rw[if_neg (by omega),if_neg c4]
     rw[this,J1]
     exact ih (i+1) b o (by omega) (by omega)
theorem Q6n(f:Bool×List DSaid)(hl:f.2.length≤1000):∃b,F19 f=some (b,Q4 f.2):=by
 obtain⟨b,g⟩:=Q7c f hl f.2.length 0 false [(f.2.length:Int)-1] (by omega) (by simp)
 have g':F44 (false,[(f.2.length:Int)-1]) f (f.2.length:Int) 0=_:=g
 rw[F19E,wr (by omega),g',J0,Q4,Q8y,Qs,K16,K1c]
 exact⟨b,rfl⟩
def Qeb(f:List DSaid)(i:Nat)(R:List (Bool×List Int)):Prop:=R.length=i∧∀(j:Nat) (hj:j<i),((R.getD j (true,[])).2.length :Int)=Qc (f.getD j (0,0)).1 ∧(Qc (f.getD j (0,0)).1 =1→(R.getD j (true,[])).2.getD 0 0=(j:Int)-1)∧(Qc (f.getD j (0,0)).1 =2→(R.getD j (true,[])).2.getD 1 0=(j:Int)-1)
theorem Q9y(f:Bool×List DSaid)(hl:f.2.length≤1000)(d:Nat):∀(i:Nat) (st:List Int) (R:List (Bool×List Int)),i+d=f.2.length→Qeb f.2 i R→st.length≤i→(0<i→st.getLast? =some ((i:Int)-1))→(Q3z (f.2.drop i) (st.length:Int)).isSome =true→
  ∃R',F98 (false,R) (false,st) f (f.2.length:Int) (i:Int)=some (false,R')∧Qeb f.2 f.2.length R':=by
 have hlim:=J5
 induction d with
 |zero=>
  intro i st R hi hR hst hlast hp
  obtain rfl:i=f.2.length:=by omega
  exact⟨R,by rw[F98E,gF (by omega)],hR⟩
 |succ d ih=>
  intro i st R hi hR hst hlast hp
  have hlt:i<f.2.length:=by omega
  have hn:=Q7k f.2[i].1
  have eg:f.2.getD i (0,0)=f.2[i]:=by simp[K1,hlt]
  rw[K2 hlt,Q3z]at hp
  by_cases c:Q1o f.2[i]=true∧Qc f.2[i].1 ≤(st.length:Int)
  ·rw[if_pos c]at hp
   have hnn:0≤Qc f.2[i].1 :=by
    have h1:=c.1
    unfold Q1o at h1
    by_cases a1:f.2[i].1 =1
    ·rw[a1];decide
    ·by_cases a2:f.2[i].1 =2
     ·rw[a2];decide
     ·rw[if_neg a1,if_neg a2,K7,decide_eq_true_eq]at h1
      omega
   obtain⟨nd,hnd⟩:=Ke hnn
   have hle:nd≤st.length:=by have:=c.2;omega
   have ew:IntKind.i64.wrap ((st.length:Int)-Qc f.2[i].1)=((st.length-nd:Nat):Int):=by rw[wr (by omega)];omega
   have hdrop:(st.drop (st.length-nd)).length =nd:=by rw[List.length_drop];omega
   have hR1:=hR.1
   obtain⟨R',g1,g2⟩:=ih (i+1) (st.take (st.length-nd)++[(i:Int)]) (R++[(false,st.drop (st.length-nd))]) (by omega) ⟨by simp[hR1],fun j hj=>by
     by_cases e:j=i
     ·subst e
      have e1:(R++[(false,st.drop (st.length-nd))]).getD j (true,[])=(false,st.drop (st.length-nd)):=by
       rw[K1,←hR1,List.getElem?_concat_length];rfl
      rw[e1,eg,hnd]
      refine⟨by rw[hdrop],fun h1=> ?_,fun h2=> ?_⟩
      ·have hnd1:nd=1:=by omega
       have hl0:=hlast (by omega)
       rw[List.getLast?_eq_getElem?]at hl0
       show(st.drop (st.length-nd)).getD 0 0=_
       rw[K1,List.getElem?_drop,hnd1]
       simp only[K2c]
       rw[hl0]
       rfl
      ·have hnd1:nd=2:=by omega
       have hl0:=hlast (by omega)
       rw[List.getLast?_eq_getElem?]at hl0
       show(st.drop (st.length-nd)).getD 1 0=_
       rw[K1,List.getElem?_drop,hnd1,show st.length-2+1=st.length-1 by omega]
       rw[hl0]
       rfl
     ·have hj2:j<i:=by omega
      have e1:(R++[(false,st.drop (st.length-nd))]).getD j (true,[])=R.getD j (true,[]):=by
       rw[K1,Kq (by omega),K1]
      rw[e1]
      exact hR.2 j hj2⟩ (by simp;omega) (fun _=>by rw[List.getLast?_concat];simp) (by
     have e2:(((st.take (st.length-nd)++[(i:Int)]).length :Nat):Int)=(st.length:Int)+(1-Qc f.2[i].1):=by simp;omega
     rw[e2]
     exact hp)
   refine⟨R',?_,g2⟩
   have etk:(st.take st.length).drop (st.length-nd)=st.drop (st.length-nd):=by rw[List.take_length]
   rw[F98E,gT (by omega),gT (by omega),gT (by omega),J2 f.2 _ i hlt,Q34,J0]
   simp only[ew,K5,etk]
   rw[gT (by omega),gT (by omega),Q48 _ (by omega),J0,gT (by simp;omega),gT (by omega),gT (by omega),gT (by simp;omega),up1 i (by omega),J1,K24,Kf,g1]
  ·rw[if_neg c]at hp
   cases hp
theorem Qb{f:List DSaid}(h:Qw f=true):1≤f.length∧f.length≤16∧Q3z f 0=some 1:=by
 simp only[Qw,K7,decide_eq_true_eq,beq_iff_eq]at h
 exact⟨by omega,by omega,h.2⟩
theorem Q6d(f:Bool×List DSaid)(h:Qw f.2=true):∃R,F23 f=some (false,R)∧Qeb f.2 f.2.length R:=by
 obtain⟨h1,h2,h3⟩:=Qb h
 obtain⟨R,g1,g2⟩:=Q9y f (by omega) f.2.length 0 [] [] (by omega) ⟨rfl,fun j hj=>by omega⟩ (by simp) (fun h=>by omega) (by
  show(Q3z (f.2.drop 0) 0).isSome =true
  rw[Kf,h3]
  rfl)
 have g1':F98 (false,[]) (false,[]) f (f.2.length:Int) 0=_:=g1
 exact⟨R,by rw[F23E,g1',J0],g2⟩
theorem Qbw(f:Bool×List DSaid)(hl:f.2.length≤1000)(R:List (Bool×List Int))(hR:Qeb f.2 f.2.length R)(d:Nat):∀(i:Nat) (o:List Int),i+d=f.2.length→o.length≤1+2*i→
  F45 (false,o) (false,R) f (f.2.length:Int) (i:Int)=some (false,o++(List.range' i d).flatMap fun j=>trk (f.2.getD j (0,0)).1 (j:Int)):=by
 have hlim:=J5
 induction d with
 |zero=>
  intro i o hi ho
  rw[F45E,gF (by omega)]
  simp
 |succ d ih=>
  intro i o hi ho
  have hlt:i<f.2.length:=by omega
  obtain⟨r1,r2,r3⟩:=hR.2 i hlt
  have hR1:=hR.1
  rw[F45E,gT (by omega),gT (by omega),gT (by omega),Qj,K19,K17,up1 i (by omega)]
  have putTwo:∀(hop:(f.2.getD i (0,0)).1 =7∨(f.2.getD i (0,0)).1 =8),(bif decide (0≤(i:Int))then bif decide ((i:Int)<(R.length:Int))then bif decide (1<(((R.getD (Int.toNat (i:Int)) (true,[])).2).length :Int))then
    bif decide (o.length+[(i:Int),(((R.getD (Int.toNat (i:Int)) (true,[])).2).getD 1 0)].length ≤lim)then
    (F45 ((false&&false),(o++[(i:Int),(((R.getD (Int.toNat (i:Int)) (true,[])).2).getD 1 0)])) (false,R) f (f.2.length:Int) ((i+1:Nat):Int)).bind fun r=>some r else none else none else none else none)=some (false,o++(trk (f.2.getD i (0,0)).1 (i:Int)++(List.range' (i+1) d).flatMap fun j=>trk (f.2.getD j (0,0)).1 (j:Int))):=by
   intro hop
   have hn2:Qc (f.2.getD i (0,0)).1 =2:=by rcases hop with h|h<;>rw[h]<;>rfl
   have e1:=r3 hn2
   rw[hn2]at r1
   have et:trk (f.2.getD i (0,0)).1 (i:Int)=[(i:Int),(i:Int)-1]:=by unfold trk;rw[if_pos hop]
   rw[K5,gT (by omega),gT (by omega),gT (by omega),e1,gT (by simp;omega),J1,K24,ih (i+1) _ (by omega) (by simp;omega),et]
   simp
  by_cases c7:(f.2.getD i (0,0)).1 =7
  ·rw[bT (by rw[beq_iff_eq];exact c7),bT (by rw[beq_iff_eq];exact c7)]
   exact putTwo (.inl c7)
  ·rw[bF (beqF c7)]
   by_cases c8:(f.2.getD i (0,0)).1 =8
   ·rw[bT (by rw[beq_iff_eq];exact c8)]
    exact putTwo (.inr c8)
   ·rw[bF (beqF c8)]
    by_cases c4:(f.2.getD i (0,0)).1 =4
    ·rw[bT (by rw[beq_iff_eq];exact c4)]
     have hn1:Qc (f.2.getD i (0,0)).1 =1:=by rw[c4];rfl
     have e1:=r2 hn1
     rw[hn1]at r1
     have et:trk (f.2.getD i (0,0)).1 (i:Int)=[(i:Int)-1]:=by unfold trk;rw[if_neg (by omega),if_pos c4]
     simp only[K5]
     rw[gT (by omega),gT (by omega),gT (by omega),e1,gT (by simp;omega),J1,K24,ih (i+1) _ (by omega) (by simp;omega),et]
     simp
    ·rw[bF (beqF c4),J1,ih (i+1) o (by omega) (by omega)]
     have et:trk (f.2.getD i (0,0)).1 (i:Int)=[]:=by unfold trk;rw[if_neg (by omega),if_neg c4]
     rw[et]
     rfl
theorem Q61(f:List DSaid)(d i:Nat):((List.range' i d).flatMap fun j=>trk (f.getD j (0,0)).1 (j:Int)).length ≤2*d:=by
 induction d generalizing i with
 |zero=>simp
 |succ d ih=>
  have h1:=Qbx (f.getD i (0,0)).1 (i:Int)
  have h2:=ih (i+1)
  rw[K19,K17,Kg]
  omega
theorem Q0(f:Bool×List DSaid)(h:Qw f.2=true):Fr f=some (false,Q4 f.2):=by
 obtain⟨h1,h2,h3⟩:=Qb h
 obtain⟨R,e1,hR⟩:=Q6d f h
 have e2:=Qbw f (by omega) R hR f.2.length 0 [(f.2.length:Int)-1] (by omega) (by simp)
 have e2':F45 (false,[(f.2.length:Int)-1]) (false,R) f (f.2.length:Int) 0=_:=e2
 have hl:=Q61 f.2 f.2.length 0
 rw[FrE,e1,J0,wr (by omega),e2',J0,Q6t _ (by simp only[Kg,Kp,K1q];omega),Q4,Q8y,K1c]
 rfl
def Qr(f:List DSaid):Bool:=Qw f&&decide (((Q4 f).length :Int)≤5)
theorem Q5f(f:Bool×List DSaid):F6t f=some (Qr f.2)∧F6s f=some (Qr f.2):=by
 obtain⟨g1,g2⟩:=Q7a f
 rw[F6tE,F6sE,g1,g2,J0,J0,Qr]
 cases h:Qw f.2 with
 |false=>exact⟨rfl,rfl⟩
 |true=>
  obtain⟨h1,h2,h3⟩:=Qb h
  obtain⟨b,e⟩:=Q6n f (by omega)
  rw[cond_true,cond_true,Q0 f h,e,J0,J0,Kz]
  exact⟨rfl,rfl⟩
def isQ(q:DQuestion):Bool:=Q1f q.1&&(decide ((q.2.1.2.length:Int)=3)&&(Qr q.2.2.2&&q.2.1.2.all fun t=>Qe q.1.1 q.1.2.1 t.2==2))
theorem Qbr(q:DQuestion)(hs:Q7 q.1)(hw:WfP q.1)(ht:∀t∈q.2.1.2,WfN t.2):F3e q=some (isQ q):=by
 rw[F3eE,Qau q.1 hs hw,J0,isQ]
 cases Q1f q.1 with
 |false=>rfl
 |true=>
  rw[K6,cond_false,Kz]
  by_cases c:(q.2.1.2.length:Int)=3
  ·have e:=Q6y q.2.1.2 (fun t=>Qe q.1.1 q.1.2.1 t.2==2) (fun i=>F9k q q.2.1 (q.2.1.2.length:Int) i) (fun i h=>by
    rw[F9kE,gT (by omega),gT (by omega),gT (by omega),J2 q.2.1.2 _ i h,Qd0 q.1 _ (ht _ (K3 h)),J0,up1 i (by omega),J1]) (by rw[F9kE,gF (by omega)])
   have e':F9k q q.2.1 (q.2.1.2.length:Int) 0=_:=e
   rw[bF (by rw[c];rfl),(Q5f q.2.2).2,J0,decide_eq_true c,Kz,e',J0]
   cases Qr q.2.2.2 with
   |false=>rfl
   |true=>cases(q.2.1.2.all fun t=>Qe q.1.1 q.1.2.1 t.2==2)<;>rfl
  ·rw[bT (by rw[bne_iff_ne];exact c),decide_eq_false c]
   rfl
theorem Qbc(q:DQuestion)(hs:Q7 q.1):F3y q=some (isQ q):=by
 rw[F3yE,Q6s q.1 hs,J0,isQ]
 cases Q1f q.1 with
 |false=>rfl
 |true=>
  rw[K6,cond_false,Kz]
  by_cases c:(q.2.1.2.length:Int)=3
  ·have h:=Ja q.2.1.2 (fun t=> !(Qe q.1.1 q.1.2.1 t.2==2)) (fun i=>F7w q.2.1 (q,()) (q.2.1.2.length:Int) i) (fun i h=>by
    rw[F7wE,gT (by omega),gT (by omega),gT (by omega),J2 q.2.1.2 _ i h,F64E,Q3d,J0,J0,up1 i (by omega),J1]) (by rw[F7wE,gF (by omega)])
   have h2:F65 q.2.1 (q,())=some (q.2.1.2.any fun t=> !(Qe q.1.1 q.1.2.1 t.2==2)):=by
    rw[F65E,F3uE]
    exact Jc h
   rw[bF (by rw[c];rfl),(Q5f q.2.2).1,J0,decide_eq_true c,Kz,h2,J0]
   cases Qr q.2.2.2 with
   |false=>rfl
   |true=>
    rw[K6,cond_false,Kz,List.all_eq_not_any_not]
  ·rw[bT (by rw[bne_iff_ne];exact c),decide_eq_false c]
   rfl
structure Asks (q:DQuestion):Prop where
 ok:Ok q.1
 three:q.2.1.2.length=3
 tr:Qr q.2.2.2=true
 wf:∀t∈q.2.1.2,WfN t.2
 kind:∀t∈q.2.1.2,(Qe q.1.1 q.1.2.1 t.2==2)=true
theorem Qg9{q:DQuestion}(h:isQ q=true)(hs:Q7 q.1)(hw:WfP q.1)(ht:∀t∈q.2.1.2,WfN t.2):Asks q:=by
 simp only[isQ,K7,decide_eq_true_eq,K11]at h
 exact⟨Qh9 h.1 hs hw,by omega,h.2.2.1,ht,fun t h1=>h.2.2.2 t h1⟩
def isQV(q:DQuestion)(v:List Int):Bool:=isQ q&&Qn q.1 v
theorem Qf7(q:DQuestion)(hs:Q7 q.1)(hw:WfP q.1)(ht:∀t∈q.2.1.2,WfN t.2)(v:DSight)(hv:v.2.length≤1048576):F56 q v=some (isQV q v.2):=by
 rw[F56E,Qbr q hs hw ht,J0,Q6e q.1 hs hw v hv,isQV]
 cases isQ q<;>rfl
theorem Qcx(q:DQuestion)(hs:Q7 q.1)(v:DSight)(hv:v.2.length≤1048576):F5o q v=some (isQV q v.2):=by
 rw[F5oE,Qbc q hs,J0,Q6c q.1 hs v hv,isQV]
 cases isQ q<;>rfl
noncomputable def letL(p:DProgram)(no:Int):List (Bool×List DNode)→Nat→Int→Int
 |[],_,a=>a
 |t::l,k,a=>letL p no l (k+1) (if Q15 p t.2 no=true then bOr .i64 a (bShl .i64 1 (k:Int))else a)
noncomputable def letter(q:DQuestion)(no:Int):Int:=letL q.1 no q.2.1.2 0 0
theorem Q5k{q:DQuestion}(h:Asks q)(no:Int):0≤letter q no∧letter q no≤7:=by
 have h3:=h.three
 unfold letter
 match q.2.1.2,h3 with
 |[a,b,c],_=>
  simp only[letL]
  cases Q15 q.1 a.2 no<;>cases Q15 q.1 b.2 no<;>cases Q15 q.1 c.2 no<;>exact⟨by decide,by decide⟩
theorem Q8e{q:DQuestion}(h:Asks q)(no:Int)(hn:0≤no∧no<1000)(d:Nat):∀(i:Nat) (a:Int),i+d=q.2.1.2.length→
  F6a no q a q.2.1 (q.2.1.2.length:Int) (i:Int)=some (letL q.1 no (q.2.1.2.drop i) i a)∧F6m q (false,Qd q.1 no) a q.2.1 (q.2.1.2.length:Int) (i:Int)=some (letL q.1 no (q.2.1.2.drop i) i a):=by
 have h3:=h.three
 induction d with
 |zero=>
  intro i a hi
  rw[F6aE,F6mE,gF (by omega),gF (by omega),K8 (by omega)]
  exact⟨rfl,rfl⟩
 |succ d ih=>
  intro i a hi
  have hlt:i<q.2.1.2.length:=by omega
  have ht:=h.wf _ (K3 hlt)
  have hk:=Qf2 (h.kind _ (K3 hlt))
  obtain⟨e1,e2⟩:=Q52 h.ok.sml q.2.1.2[i] ht hk false no
  rw[F6aE,F6mE,J2 q.2.1.2 _ i hlt,l7Of h.ok.sml no hn]
  simp only[gT (show(i:Int)<(q.2.1.2.length:Int) by omega),gT (show(0:Int)≤(i:Int) by omega),e1,e2,J0,up1 i (by omega),wru (n:=(i:Int)) (by omega),gF (show¬(i:Int)<0 by omega),J1]
  rw[K2 hlt,letL]
  cases Q15 q.1 q.2.1.2[i].2 no with
  |true=>
   rw[cond_true,cond_true,if_pos rfl]
   exact ih (i+1) _ (by omega)
  |false=>
   rw[cond_false,cond_false,if_neg (by decide)]
   exact ih (i+1) _ (by omega)
theorem Q5j{q:DQuestion}(h:Asks q)(no:Int)(hn:0≤no∧no<1000):F1r q no=some (letter q no):=by
 have e:=(Q8e h no hn q.2.1.2.length 0 0 (by omega)).1
 have e':F6a no q 0 q.2.1 (q.2.1.2.length:Int) 0=_:=e
 rw[F1rE,e',J0]
 rfl
theorem Qal{q:DQuestion}(h:Asks q)(no:Int)(hn:0≤no∧no<1000):F24 q no=some (letter q no):=by
 have e:=(Q8e h no hn q.2.1.2.length 0 0 (by omega)).2
 have e':F6m q (false,Qd q.1 no) 0 q.2.1 (q.2.1.2.length:Int) 0=_:=e
 rw[F24E,Qa1 h.ok.sml no hn,J0,e',J0]
 rfl
def FitQ(q:DQuestion)(v:List Int):Prop:=∀j k:Nat,j<v.length→k<v.length→v.getD j 0=v.getD k 0→letter q (j:Int)=letter q (k:Int)
theorem Qhp{q:DQuestion}(h:Asks q){v:List Int}(hv:Sees q.1 v)(f:Bool):∃b,F1f q (f,v)=some b∧(b=true↔FitQ q v):=by
 have hm:=hv.manyV
 obtain⟨m,hmc⟩:=Ke (Q1t v hv.inn).1
 have hin:=Q1t v hv.inn
 have many:F1v (f,v)=some (m:Int):=by rw[Q9p (f,v) (by simp only;omega) hv.inn];exact congrArg some hmc
 have cls:∀c:Nat,∃b1:Bool,F1u (f,v) (c:Int)=some (b1,inL v (c:Int)):=fun c=>Qgs (f,v) (by simp only;omega) _
 have rows2:∀(c:Nat) (b1:Bool),(F7x q (f,v) (c:Int) (b1,inL v (c:Int)) (b1,inL v (c:Int)) ((inL v (c:Int)).length :Int) 0)=some (if(inL v (c:Int)).all (fun x=>letter q x==letter q ((inL v (c:Int)).getD 0 0))=true then .inr ()else .inl false):=by
  intro c b1
  have hl:=Q4d v (c:Int)
  exact Q6y (inL v (c:Int)) (fun x=>letter q x==letter q ((inL v (c:Int)).getD 0 0)) (fun i=>F7x q (f,v) (c:Int) (b1,inL v (c:Int)) (b1,inL v (c:Int)) ((inL v (c:Int)).length :Int) i) (fun i hi=>by
   have h1:=(Q2k.1 (K3 hi)).1
   have h0:0<(inL v (c:Int)).length :=by omega
   have h2:=(Q2k.1 (K3 h0)).1
   have e0:(inL v (c:Int)).getD 0 0=(inL v (c:Int))[0]:=by rw[K1,Kc h0];rfl
   rw[F7xE,gT (by omega),gT (by omega),gT (by simp only;omega)]
   simp only[J2 (inL v (c:Int)) _ i hi,e0]
   rw[Q5j h _ (by omega),J0,gT (by omega),Q5j h _ (by omega),J0,up1 i (by omega),J1]
   rfl) (by rw[F7xE,gF (by omega)])
 have one:=Q6y (List.range m) (fun c=>(inL v (c:Int)).all (fun x=>letter q x==letter q ((inL v (c:Int)).getD 0 0))) (fun i=>F9o q (f,v) i) (fun i hi=>by
   rw[List.length_range]at hi
   obtain⟨b1,e1⟩:=cls i
   rw[F9oE,many,J0,gT (by omega),e1,J0]
   simp only
   rw[rows2 i b1,J0,up1 i (by omega),J1,List.getElem_range]
   cases(inL v (i:Int)).all (fun x=>letter q x==letter q ((inL v (i:Int)).getD 0 0))<;>rfl) (by
   rw[F9oE,many,J0,List.length_range,gF (by omega)])
 refine⟨(List.range m).all fun c=>(inL v (c:Int)).all (fun x=>letter q x==letter q ((inL v (c:Int)).getD 0 0)),?_,?_⟩
 ·rw[F1fE,one,J0]
  cases(List.range m).all (fun c=>(inL v (c:Int)).all (fun x=>letter q x==letter q ((inL v (c:Int)).getD 0 0)))<;>rfl
 ·simp only[K11,K1y,beq_iff_eq]
  constructor
  ·intro g j k hj hk e
   have hg:∀i:Nat,i<v.length→∃c:Nat,c<m∧v.getD i 0=(c:Int):=fun i hi=>by
    have hmem:v.getD i 0∈v:=by rw[K1,Kc hi];exact K3 hi
    have h1:=Q3v v _ hmem
    have h2:=(hv.inn _ hmem).1
    exact⟨(v.getD i 0).toNat,by omega,by omega⟩
   obtain⟨c,hc,ec⟩:=hg j hj
   rw[g c hc (j:Int) (Q2k.2 ⟨by omega,by rw[K5];exact ec⟩),g c hc (k:Int) (Q2k.2 ⟨by omega,by rw[K5,←e];exact ec⟩)]
  ·intro g c hc x hx
   have h0:0<(inL v (c:Int)).length :=List.length_pos_of_mem hx
   have e0:(inL v (c:Int)).getD 0 0=(inL v (c:Int))[0]:=by rw[K1,Kc h0];rfl
   obtain⟨h1,h2⟩:=Q2k.1 hx
   obtain⟨h3,h4⟩:=Q2k.1 (K3 h0)
   have:=g x.toNat ((inL v (c:Int))[0]).toNat (by omega) (by omega) (by rw[h2,h4])
   rw[K1p h1.1,K1p h3.1]at this
   rw[e0]
   exact this
theorem Qhh{q:DQuestion}(h:Asks q){v:List Int}(hv:Sees q.1 v)(f:Bool)(m:Nat)(hmc:Q23 v=m)(d:Nat):∀(i:Nat) (a:List Int),i+d=v.length→a.length=m→
  (∀c:Nat,c<m→(a.getD c 0= -1∧∀j:Nat,j<i→v.getD j 0≠(c:Int))∨∃j:Nat,j<i∧v.getD j 0=(c:Int)∧a.getD c 0=letter q (j:Int))→
  (∀j k:Nat,j<i→k<i→v.getD j 0=v.getD k 0→letter q (j:Int)=letter q (k:Int))→
  (∃z,F79 q (false,a) (f,v) (v.length:Int) (i:Int)=some (.inl (z,false))∧¬FitQ q v)∨(∃z,F79 q (false,a) (f,v) (v.length:Int) (i:Int)=some (.inr z)∧FitQ q v):=by
 have hm:=hv.manyV
 induction d with
 |zero=>
  intro i a hi ha hinv hfit
  right
  obtain rfl:i=v.length:=by omega
  exact⟨(false,a),by rw[F79E,gF (by omega)],fun j k hj hk e=>hfit j k hj hk e⟩
 |succ d ih=>
  intro i a hi ha hinv hfit
  have hlt:i<v.length:=by omega
  have hmem:v.getD i 0∈v:=by rw[K1,Kc hlt];exact K3 hlt
  have h1:=Q3v v _ hmem
  have h2:=(hv.inn _ hmem).1
  obtain⟨c,hc⟩:=Ke h2
  have hcm:c<m:=by omega
  have hlet:=Q5k h (i:Int)
  have next:(∀j:Nat,j<i→v.getD j 0=(c:Int)→letter q (j:Int)=letter q (i:Int))→∀(a':List Int),a'=a.set c (letter q (i:Int))→
    (∃z,F79 q (false,a') (f,v) (v.length:Int) ((i+1:Nat):Int)=some (.inl (z,false))∧¬FitQ q v)∨(∃z,F79 q (false,a') (f,v) (v.length:Int) ((i+1:Nat):Int)=some (.inr z)∧FitQ q v):=by
   rintro hsame a' rfl
   refine ih (i+1) _ (by omega) (by rw[Ko];exact ha) (fun c' hc'=> ?_) (fun j k hj hk e=> ?_)
   ·by_cases e:c'=c
    ·subst e
     right
     exact⟨i,by omega,hc,by rw[K1,List.getElem?_set_self (by omega)];rfl⟩
    ·have e1:(a.set c (letter q (i:Int))).getD c' 0=a.getD c' 0:=by rw[K1,List.getElem?_set_ne (by omega),K1]
     rw[e1]
     rcases hinv c' hc' with⟨g1,g2⟩|⟨j,g1,g2,g3⟩
     ·left
      refine⟨g1,fun j hj=> ?_⟩
      by_cases e2:j=i
      ·subst e2
       rw[hc]
       omega
      ·exact g2 j (by omega)
     ·exact .inr ⟨j,by omega,g2,g3⟩
   ·by_cases ej:j=i
    ·subst ej
     by_cases ek:k=j
     ·subst ek;rfl
     ·exact(hsame k (by omega) (by rw[←e];exact hc)).symm
    ·by_cases ek:k=i
     ·subst ek
      exact hsame j (by omega) (by rw[e];exact hc)
     ·exact hfit j k (by omega) (by omega) e
  have ei:∀R,F79 q (false,a) (f,v) (v.length:Int) (i:Int)=R↔(bif decide (a.getD c 0≥0)then(bif a.getD c 0 !=letter q (i:Int)then some (.inl ((false,a),false))else F79 q (false,a.set c (letter q (i:Int))) (f,v) (v.length:Int) ((i+1:Nat):Int))else F79 q (false,a.set c (letter q (i:Int))) (f,v) (v.length:Int) ((i+1:Nat):Int))=R:=fun R=>by
   rw[F79E]
   simp only[gT (show(i:Int)<(v.length:Int) by omega),gT (show(0:Int)≤(i:Int) by omega),Qj,Qal h (i:Int) (by omega),J0,hc,gT (show(0:Int)≤(c:Int) by omega),gT (show(c:Int)<(a.length:Int) by omega),up1 i (by omega),J1,K5]
  simp only[ei]
  rcases hinv c hcm with⟨g1,g2⟩|⟨j,g1,g2,g3⟩
  ·rw[g1]
   simp only[gF (show¬(-1:Int)≥0 by omega)]
   exact next (fun j hj e=>absurd e (g2 j hj)) _ rfl
  ·have hletj:=Q5k h (j:Int)
   rw[g3]
   simp only[gT (show letter q (j:Int)≥0 by omega)]
   by_cases e:letter q (j:Int)=letter q (i:Int)
   ·simp only[e,bne_self_eq_false,cond_false]
    exact next (fun k hk ek=>by rw[←e];exact hfit k j hk g1 (by rw[ek,g2])) _ rfl
   ·left
    exact⟨(false,a),by rw[bT (by rw[bne_iff_ne];exact e)],fun g=>e (g j i (by omega) hlt (by rw[g2,hc]))⟩
theorem Qb6(m:Nat):(List.replicate m [(-1:Int)]).flatten =List.replicate m (-1):=by
 induction m with
 |zero=>rfl
 |succ m ih=>rw[List.replicate_succ,List.flatten_cons,ih,List.replicate_succ];rfl
theorem Qi5{q:DQuestion}(h:Asks q){v:List Int}(hv:Sees q.1 v)(f:Bool):∃b,F2k q (f,v)=some b∧(b=true↔FitQ q v):=by
 have hm:=hv.manyV
 have hin:=Q1t v hv.inn
 obtain⟨m,hmc⟩:=Ke hin.1
 have hm1:1≤m:=by
  have hlt:0<v.length:=by omega
  have:=Q3v v _ (K3 hlt)
  have:=(hv.inn _ (K3 hlt)).1
  omega
 have e1:Fv (f,v)=some (m:Int):=by rw[Q2v (f,v) (by simp only;omega) (by simp only;omega) hv.inn];exact congrArg some hmc
 have e2:=Q4f (false,[-1]) m (by simp) (by simp) hm1 (by omega)
 rw[F2kE,e1,J0,e2,J0]
 simp only[Qb6]
 have e3:=Qhh h hv f m hmc v.length 0 (List.replicate m (-1)) (by omega) (by simp) (fun c hc=> .inl ⟨by simp[K1,hc],fun j hj=>by omega⟩) (fun j k hj _ _=>by omega)
 rcases e3 with⟨z,g1,g2⟩|⟨z,g1,g2⟩
 ·have g1':F79 q (false,List.replicate m (-1)) (f,v) (v.length:Int) 0=_:=g1
  exact⟨false,by rw[g1',J0],by simp[g2]⟩
 ·have g1':F79 q (false,List.replicate m (-1)) (f,v) (v.length:Int) 0=_:=g1
  exact⟨true,by rw[g1',J0],by simp[g2]⟩
theorem Qex{q:DQuestion}(h:Asks q){v:List Int}(hv:Sees q.1 v)(f g:Bool):∃b,F1f q (f,v)=some b∧F2k q (g,v)=some b∧(b=true↔FitQ q v):=by
 obtain⟨b,e1,e2⟩:=Qhp h hv f
 obtain⟨b',e3,e4⟩:=Qi5 h hv g
 obtain rfl:b=b':=by rw[K20,e2,e4]
 exact⟨b,e1,e3,e2⟩
theorem Qh1(a:Bool×List DSaid)(left:Int)(h0:0≤left∧left≤1048576)(hl:a.2.length≤big):F5y a left=some (if(a.2.length:Int)≤left then left-a.2.length else -1):=by
 rw[J61]at hl
 rw[F5yE,wr (by omega)]
 by_cases h:(a.2.length:Int)≤left
 ·rw[gF (by omega),if_pos h]
 ·rw[gT (by omega),if_neg h]
theorem Qh3(a:Bool×List DSaid)(hl:a.2.length≤1048576):F3h a=some (false,a.2):=by
 have hlim:lim=1099511627776:=rfl
 rw[F3hE,gT (by omega),gT (by omega),gT (by omega),gT (by omega),J1]
 have:=J2y a.2 (fun x=>x) (fun o i=>F9b a o i) false (fun i h x hx=>by
  rw[F9bE,gT (by omega),gT (by omega),gT (by omega),J2 a.2 _ i h,F18E,J0,gT (by omega),gT (by simp only;omega),up1 i (by omega),J1,K5]) (fun x hx=>by
  rw[F9bE,gF (by omega)]) (List.replicate (Int.toNat (a.2.length:Int)) (0,0)) (by simp)
 rw[this]
 simp
theorem Q7x(a:Bool×List DSaid)(hl:a.2.length≤1048576)(b:Bool):F3j a (b,a.2)=some true:=by
 rw[F3jE,bF (by simp)]
 have:=J3m a.2 (fun _=>true) (.inr ():Bool ⊕ Unit) (.inl false) (fun i=>F9n a (b,a.2) i) (fun i h=>by
  rw[F9nE,gT (by omega),gT (by omega),gT (by omega),gT (by omega),gT (by simp only;omega),J2 a.2 _ i h,F1kE,bF (by simp),bF (by simp),J0,bF (by simp),up1 i (by omega),J1,cond_true]) (by
  rw[F9nE,gF (by omega)])
 rw[this,show(a.2.all fun _=>true)=true by simp]
 rfl
theorem Q7w(f g:Bool)(l:List DSaid)(hl:l.length≤1048576):F3j (f,l) (g,l)=some true:=Q7x (f,l) hl g
theorem Qat{a:Bool×List (Bool×List DNode)}(w:WfD (.sl (.sl tyNode)) a):a.2.length≤big∧(∀x∈a.2,x.2.length≤big)∧∀t∈Q2s a.2,WfN t.2:=by
 refine⟨w.2.1,fun x hx=>(w.2.2 x hx).2.1,fun t ht=> ?_⟩
 obtain⟨x,hx,rfl⟩:=Kv.1 ht
 exact(show WfN x.2 from Q3n (w.2.2 x hx))
structure SmQ (q:DQuestion):Prop where
 prog:Q7 q.1
 rows:Q3m q.2.1.2
 said:q.2.2.2.length≤1048576
def cpQ(q:DQuestion):DQuestion:=(Q6 q.1,(false,Q2s q.2.1.2),(false,q.2.2.2))
theorem Qc4{q:DQuestion}(h:SmQ q):SmQ (cpQ q):=⟨Qi4 h.prog,Qc5 h.rows,h.said⟩
theorem Qbt(q:DQuestion)(w:WfD tyQuestion q)(left:Int)(h0:0≤left∧left≤1048576):∃r,F71 q left=some r∧(r<0∨(0≤r∧r≤left∧SmQ q)):=by
 obtain⟨w1,w2,w3⟩:=w
 obtain⟨v1,v2,_⟩:=Qat w2
 obtain⟨r,e,hr⟩:=Qdt q.1 w1 left h0
 rw[F71E,e,J0]
 rcases hr with hr|⟨h1,h2,h3⟩
 ·rw[gT hr]
  exact⟨_,rfl,.inl (by omega)⟩
 ·rw[gF (by omega)]
  obtain⟨r1,e1,hr1⟩:=Qfq q.2.1 r (by omega) v1 v2
  rw[e1,J0]
  rcases hr1 with hr1|⟨h4,h5,h6⟩
  ·rw[gT hr1]
   exact⟨_,rfl,.inl (by omega)⟩
  ·rw[gF (by omega),Qh1 q.2.2 r1 (by omega) w3.2.1,J0]
   by_cases c:(q.2.2.2.length:Int)≤r1
   ·rw[if_pos c,gF (by omega)]
    exact⟨_,rfl,.inr ⟨by omega,by omega,h3,h6,by omega⟩⟩
   ·rw[if_neg c,gT (by omega)]
    exact⟨_,rfl,.inl (by omega)⟩
theorem Qbv(q:DQuestion)(h:SmQ q):F48 q=some ((Q6 q.1).1,(Q6 q.1).2.1,(false,(Q6 q.1).2.2.1.2),(false,(Q6 q.1).2.2.2.2),(false,Q2s q.2.1.2),(false,q.2.2.2)):=by
 rw[F48E,Qdx q.1 h.prog,J0,Qfs q.2.1 h.rows,J0,Qh3 q.2.2 h.said,J0]
 rfl
theorem Q5d(q:DQuestion)(h:SmQ q):F5n q q=some true:=by
 rw[F5nE,Q69 q.1 h.prog,J0,K6,cond_false]
 have e1:F3b q.2.1 q.2.1=some true:=Q76 _ _ q.2.1.2 q.2.1.2 h.rows rfl
 have e2:F3j q.2.2 q.2.2=some true:=Q7w _ _ q.2.2.2 h.said
 rw[e1,J0,K6,cond_false,e2,J0]
 rfl
structure LawQ (q:DQuestion):Prop where
 sm:SmQ q
 wfp:WfP q.1
 wf:∀t∈q.2.1.2,WfN t.2
theorem Qga{q:DQuestion}(w:WfD tyQuestion q)(h:SmQ q):LawQ (cpQ q):=⟨Qc4 h,Qha (Qee w.1),(Qat w.2.1).2.2⟩
theorem Qbp(l:List Int):∀m:Int,Q2q m l=true→∀c:Int,m≤c→c<l.foldl (fun m x=>if x≥m then x+1 else m) m→c∈l:=by
 induction l with
 |nil=>intro m _ c h1 h2;exact absurd h2 (by simp only[List.foldl_nil];omega)
 |cons x l ih=>
  intro m h c h1 h2
  simp only[Q2q,K7,decide_eq_true_eq]at h
  obtain⟨⟨h3,h4⟩,h5⟩:=h
  rw[K16]at h2
  by_cases e:x=m
  ·rw[if_pos e]at h5
   rw[if_pos (by omega),e]at h2
   by_cases ec:c=m
   ·exact Kd.2 (.inl (by omega))
   ·exact K9 _ (ih _ h5 c (by omega) h2)
  ·rw[if_neg e]at h5
   rw[if_neg (by omega)]at h2
   exact K9 _ (ih _ h5 c h1 h2)
theorem Q5l{p:DProgram}{v:List Int}(h:Qn p v=true)(c:Int)(hc:0≤c∧c<Q23 v):c∈v:=by
 simp only[Qn,K7]at h
 exact Qbp v 0 h.2.2 c hc.1 hc.2
theorem Q7b(l:Bool×List Int)(n:Int)(hl:l.2.length≤1048576):F22 l n=some (bif l.2.any (fun x=>n==x)then(l.2.findIdx (fun x=>n==x):Int)else -1):=by
 have h:=Ja l.2 (fun x=>n==x) (fun i=>F9l l n (l.2.length:Int) i) (fun i h=>by
  rw[F9lE,gT (by omega),gT (by omega),gT (by omega),J2 l.2 _ i h,up1 i (by omega),J1]) (by rw[F9lE,gF (by omega)])
 rw[F22E,h,J0]
 cases l.2.any (fun x=>n==x)<;>rfl
theorem Q4v{q:DQuestion}(h:Asks q){v:List Int}(hv:Sees q.1 v)(hf:FitQ q v)(c:Int)(hc:c∈v)(f g:Bool):
  ∃r,F59 q (f,v) c=some r∧F6f q (g,v) c=some r∧0≤r∧r≤7∧∀j:Nat,j<v.length→v.getD j 0=c→letter q (j:Int)=r:=by
 have hm:=hv.manyV
 obtain⟨b,e1⟩:=Qgs (f,v) (by simp only;omega) c
 have e1':F1u (f,v) c=some (b,inL v c):=e1
 obtain⟨i,hi,ei⟩:=List.mem_iff_getElem.1 hc
 have hgi:v.getD i 0=c:=by rw[K1,Kc hi,ei];rfl
 have h0:0<(inL v c).length :=List.length_pos_of_mem (Q2k.2 ⟨(by omega:0≤(i:Int)∧(i:Int)<(v.length:Int)),by rw[K5];exact hgi⟩)
 have e0:(inL v c).getD 0 0=(inL v c)[0]:=by rw[K1,Kc h0];rfl
 obtain⟨h3,h4⟩:=Q2k.1 (K3 h0)
 have hidx:v.findIdx (fun x=>c==x)<v.length:=List.findIdx_lt_length_of_exists ⟨c,hc,by simp⟩
 have hat:v.getD (v.findIdx (fun x=>c==x)) 0=c:=by
  have:=List.findIdx_getElem (w:=hidx)
  rw[K1,Kc hidx]
  exact(by simpa using this:c=v[v.findIdx (fun x=>c==x)]).symm
 have hany:(v.any fun x=>c==x)=true:=Kw.2 ⟨c,hc,by simp⟩
 have e2:=Q7b (g,v) c (by simp only;omega)
 simp only[hany,cond_true]at e2
 have hall:∀j:Nat,j<v.length→v.getD j 0=c→letter q (j:Int)=letter q ((inL v c)[0]):=fun j hj ej=>by
  have:=hf j ((inL v c)[0]).toNat hj (by omega) (by rw[ej,h4])
  rw[this,K1p h3.1]
 have hin:=Q5k h ((inL v c)[0])
 refine⟨letter q ((inL v c)[0]),?_,?_,hin.1,hin.2,hall⟩
 ·rw[F59E,e1',J0,gT (by simp only;omega)]
  simp only[e0]
  rw[Q5j h _ (by omega),J0]
 ·rw[F6fE,e2,J0,Qal h _ (by omega),J0,hall _ hidx hat]
inductive From (f:List DSaid):Nat→Nat→Prop
 |sub0 {k:Nat}:Qc (f.getD k (0,0)).1 =0→From f k k
 |sub1 {k s:Nat}:Qc (f.getD (k+1) (0,0)).1 =1→From f k s→From f (k+1) s
 |sub2 {k s t:Nat}:Qc (f.getD (k+1) (0,0)).1 =2→From f k (s+1)→From f s t→From f (k+1) t
theorem Q3e(f:Bool×List DSaid)(x:Int):F9c f x 0=some x:=by
 rw[F9cE,gF (by omega)]
theorem Qc3{f:List DSaid}{k s:Nat}(h:From f k s):s≤k:=by
 induction h with
 |sub0 _=>exact Ky _
 |sub1 _ _ ih=>omega
 |sub2 _ _ _ ih1 ih2=>omega
theorem Qgp(f:Bool×List DSaid)(hl:f.2.length≤1000){k s:Nat}(h:From f.2 k s):k<f.2.length→F1q f (k:Int)=some (s:Int):=by
 induction h with
 | @sub0 k hn=>
  intro hk
  rw[F1qE,gT (by omega),gT (by omega),Qj,Q35,hn,J0,Q3e,J0]
 | @sub1 k s hn h1 ih=>
  intro hk
  rw[F1qE,gT (by omega),gT (by omega),Qj,Q35,hn,J0,F9cE,gT (by omega),dn1 (k+1) (by omega) (by omega),Nat.add_sub_cancel,ih (by omega),J0,wr (by omega),show(1:Int)-1=0 by omega,Q3e]
  rfl
 | @sub2 k s t hn h1 h2 ih1 ih2=>
  intro hk
  have hs:=Qc3 h1
  rw[F1qE,gT (by omega),gT (by omega),Qj,Q35,hn,J0,F9cE,gT (by omega),dn1 (k+1) (by omega) (by omega),Nat.add_sub_cancel,ih1 (by omega),J0,wr (by omega),show(2:Int)-1=1 by omega,F9cE,gT (by omega),dn1 (s+1) (by omega) (by omega),Nat.add_sub_cancel,ih2 (by omega),J0,wr (by omega),show(1:Int)-1=0 by omega,Q3e]
  rfl
inductive Stk (f:List DSaid):List Int→Nat→Prop
 |nil:Stk f [] 0
 |snoc {st:List Int} {s k:Nat}:Stk f st s→From f k s→Stk f (st++[(k:Int)]) (k+1)
theorem Qec{f:List DSaid}{st:List Int}{i:Nat}(h:Stk f st i)(nd:Nat)(hn:Qc (f.getD i (0,0)).1 =(nd:Int))(h2:nd≤2)(hle:nd≤st.length):
  Stk f (st.take (st.length-nd)++[(i:Int)]) (i+1)∧(nd=1→(st.drop (st.length-nd)).getD 0 0=(i:Int)-1)∧(nd=2→(st.drop (st.length-nd)).getD 1 0=(i:Int)-1∧∃k:Nat,(st.drop (st.length-nd)).getD 0 0=(k:Int)∧From f (i-1) (k+1)):=by
 have h3:nd=0∨nd=1∨nd=2:=by omega
 rcases h3 with rfl|rfl|rfl
 ·refine⟨?_,fun h=>by omega,fun h=>by omega⟩
  rw[Nat.sub_zero,List.take_length]
  exact .snoc h (.sub0 hn)
 ·cases h with
  |nil=>exact absurd hle (by simp)
  | @snoc st s k h1 h4=>
   have e:(st++[(k:Int)]).length -1=st.length:=by simp
   rw[e,List.take_left,List.drop_left]
   refine⟨.snoc h1 (.sub1 hn h4),fun _=> ?_,fun h=>by omega⟩
   show(k:Int)=((k+1:Nat):Int)-1
   omega
 ·cases h with
  |nil=>exact absurd hle (by simp)
  | @snoc st s k h1 h4=>
   cases h1 with
   |nil=>exact absurd hle (by simp)
   | @snoc st2 s2 k2 h5 h6=>
    have e:(st2++[(k2:Int)]++[(k:Int)]).length -2=st2.length:=by simp
    rw[e,Kj,List.take_left,List.drop_left]
    refine⟨.snoc h5 (.sub2 hn h4 h6),fun h=>by omega,fun _=>⟨?_,k2,rfl,h4⟩⟩
    show(k:Int)=((k+1:Nat):Int)-1
    omega
structure OpsAre (f:List DSaid) (i:Nat) (R:List (Bool×List Int)):Prop where
 len:R.length=i
 pos:∀j:Nat,j<i→Qc (f.getD j (0,0)).1 ≤(j:Int)
 many:∀j:Nat,j<i→((R.getD j (true,[])).2.length :Int)=Qc (f.getD j (0,0)).1
 op1:∀j:Nat,j<i→Qc (f.getD j (0,0)).1 =1→(R.getD j (true,[])).2.getD 0 0=(j:Int)-1
 op2:∀j:Nat,j<i→Qc (f.getD j (0,0)).1 =2→(R.getD j (true,[])).2.getD 1 0=(j:Int)-1∧∃k:Nat,(R.getD j (true,[])).2.getD 0 0=(k:Int)∧From f (j-1) (k+1)
theorem Q91{f:List DSaid}{i:Nat}{R:List (Bool×List Int)}(h:OpsAre f i R)(b:Bool)(l:List Int)(h0:Qc (f.getD i (0,0)).1 ≤(i:Int))(h1:(l.length:Int)=Qc (f.getD i (0,0)).1)(h2:Qc (f.getD i (0,0)).1 =1→l.getD 0 0=(i:Int)-1)
  (h3:Qc (f.getD i (0,0)).1 =2→l.getD 1 0=(i:Int)-1∧∃k:Nat,l.getD 0 0=(k:Int)∧From f (i-1) (k+1)):OpsAre f (i+1) (R++[(b,l)]):=by
 have hl:=h.len
 have e1:(R++[(b,l)]).getD i (true,[])=(b,l):=by
  rw[K1,←hl,List.getElem?_concat_length];rfl
 have e2:∀j:Nat,j<i→(R++[(b,l)]).getD j (true,[])=R.getD j (true,[]):=fun j hj=>by
  rw[K1,Kq (by omega),K1]
 refine⟨by simp[hl],fun j hj=> ?_,fun j hj=> ?_,fun j hj hn=> ?_,fun j hj hn=> ?_⟩<;>by_cases e:j=i
 ·subst e;exact h0
 ·exact h.pos j (by omega)
 ·subst e;rw[e1];exact h1
 ·rw[e2 j (by omega)];exact h.many j (by omega)
 ·subst e;rw[e1];exact h2 hn
 ·rw[e2 j (by omega)];exact h.op1 j (by omega) hn
 ·subst e;rw[e1];exact h3 hn
 ·rw[e2 j (by omega)];exact h.op2 j (by omega) hn
theorem Q9w{x:DSaid}(h:Q1o x=true):0≤Qc x.1:=by
 unfold Q1o at h
 by_cases a1:x.1=1
 ·rw[a1];decide
 ·by_cases a2:x.1=2
  ·rw[a2];decide
  ·rw[if_neg a1,if_neg a2,K7,decide_eq_true_eq]at h
   omega
theorem Qdi(f:Bool×List DSaid)(hl:f.2.length≤1000)(d:Nat):∀(i:Nat) (st:List Int) (R:List (Bool×List Int)),i+d=f.2.length→OpsAre f.2 i R→Stk f.2 st i→st.length≤i→(Q3z (f.2.drop i) (st.length:Int)).isSome =true→
  ∃R',F98 (false,R) (false,st) f (f.2.length:Int) (i:Int)=some (false,R')∧OpsAre f.2 f.2.length R':=by
 have hlim:=J5
 induction d with
 |zero=>
  intro i st R hi hR hS hst hp
  obtain rfl:i=f.2.length:=by omega
  exact⟨R,by rw[F98E,gF (by omega)],hR⟩
 |succ d ih=>
  intro i st R hi hR hS hst hp
  have hlt:i<f.2.length:=by omega
  have hn:=Q7k f.2[i].1
  have eg:f.2.getD i (0,0)=f.2[i]:=by simp[K1,hlt]
  rw[K2 hlt,Q3z]at hp
  by_cases c:Q1o f.2[i]=true∧Qc f.2[i].1 ≤(st.length:Int)
  ·rw[if_pos c]at hp
   obtain⟨nd,hnd⟩:=Ke (Q9w c.1)
   have hle:nd≤st.length:=by have:=c.2;omega
   have ew:IntKind.i64.wrap ((st.length:Int)-Qc f.2[i].1)=((st.length-nd:Nat):Int):=by rw[wr (by omega)];omega
   have hdrop:(st.drop (st.length-nd)).length =nd:=by rw[List.length_drop];omega
   have hR1:=hR.len
   have hl1:(st.take (st.length-nd)++[(i:Int)]).length ≤i+1:=by simp;omega
   have e2:(((st.take (st.length-nd)++[(i:Int)]).length :Nat):Int)=(st.length:Int)+(1-Qc f.2[i].1):=by simp;omega
   have q1:Qc f.2[i].1 =1→nd=1:=by omega
   have q2:Qc f.2[i].1 =2→nd=2:=by omega
   have hS':=Qec hS nd (by rw[eg];exact hnd) (by omega) hle
   have hA:=Q91 hR false (st.drop (st.length-nd)) (by rw[eg];omega) (by rw[hdrop,eg,hnd]) (fun h=>hS'.2.1 (q1 (eg▸h))) (fun h=>hS'.2.2 (q2 (eg▸h)))
   have s1:=hS'.1
   clear hS'
   obtain⟨R',g1,g2⟩:=ih (i+1) (st.take (st.length-nd)++[(i:Int)]) (R++[(false,st.drop (st.length-nd))]) (by omega) hA s1 hl1 (by
     rw[e2]
     exact hp)
   refine⟨R',?_,g2⟩
   have etk:(st.take st.length).drop (st.length-nd)=st.drop (st.length-nd):=by rw[List.take_length]
   rw[F98E,gT (by omega),gT (by omega),gT (by omega),J2 f.2 _ i hlt,Q34,J0]
   simp only[ew,K5,etk]
   rw[gT (by omega),gT (by omega),Q48 _ (by omega),J0,gT (by simp;omega),gT (by omega),gT (by omega),gT (by simp;omega),up1 i (by omega),J1,K24,Kf,g1]
  ·rw[if_neg c]at hp
   cases hp
theorem Qdh(f:Bool×List DSaid)(h:Qw f.2=true):∃R,F23 f=some (false,R)∧OpsAre f.2 f.2.length R:=by
 obtain⟨h1,h2,h3⟩:=Qb h
 obtain⟨R,g1,g2⟩:=Qdi f (by omega) f.2.length 0 [] [] (by omega) ⟨rfl,fun j hj=>by omega,fun j hj=>by omega,fun j hj=>by omega,fun j hj=>by omega⟩ .nil (by simp) (by
  show(Q3z (f.2.drop 0) 0).isSome =true
  rw[Kf,h3]
  rfl)
 have g1':F98 (false,[]) (false,[]) f (f.2.length:Int) 0=_:=g1
 exact⟨R,by rw[F23E,g1',J0],g2⟩
theorem Qap:∀(l:List DSaid) (v:Int),(Q3z l v).isSome =true→∀x∈l,Q1o x=true
 |[],_,_,x,hx=>by cases hx
 |y::l,v,h,x,hx=>by
  rw[Q3z]at h
  by_cases c:Q1o y=true∧Qc y.1≤v
  ·rw[if_pos c]at h
   rcases Kd.1 hx with rfl|hx
   ·exact c.1
   ·exact Qap l _ h x hx
  ·rw[if_neg c]at h
   cases h
theorem Q9e{f:List DSaid}(h:Qw f=true)(i:Nat)(hi:i<f.length):Q1o f[i]=true:=by
 obtain⟨_,_,h3⟩:=Qb h
 exact Qap f 0 (by rw[h3];rfl) _ (K3 hi)
def Qhc(g:Int)(i:Nat):Bool:=bAnd .i64 (bShr .i64 g (i:Int)) 1==1
def Q1p(T:List Int)(g node:Int):Bool:=T.any (fun x=>node==x)&&Qhc g (T.findIdx fun x=>node==x)
theorem Qbg(T:Bool×List Int)(hl:T.2.length≤1000)(g node:Int)(d:Nat):∀i:Nat,i+d=T.2.length→
  F8v g node T (T.2.length:Int) (i:Int)=some (bif (T.2.drop i).any (fun x=>node==x)then .inl (Qhc g (i+(T.2.drop i).findIdx fun x=>node==x))else .inr ()):=by
 induction d with
 |zero=>
  intro i hi
  rw[F8vE,gF (by omega),K8 (by omega)]
  rfl
 |succ d ih=>
  intro i hi
  have hlt:i<T.2.length:=by omega
  rw[F8vE,gT (by omega),gT (by omega),gT (by omega),J2 T.2 _ i hlt,K2 hlt,List.any_cons,List.findIdx_cons,wru (by omega),gF (by omega),up1 i (by omega),J1,ih (i+1) (by omega)]
  by_cases e:T.2[i]=node
  ·have e1:(T.2[i]==node)=true:=by rw[beq_iff_eq];exact e
   have e2:(node==T.2[i])=true:=by rw[beq_iff_eq];exact e.symm
   rw[e1,e2,cond_true,Bool.true_or,cond_true,cond_true]
   rfl
  ·have e1:(T.2[i]==node)=false:=beqF e
   have e2:(node==T.2[i])=false:=beqF (fun h=>e h.symm)
   rw[e1,e2,cond_false,K27,cond_false]
   have e3:i+1+(T.2.drop (i+1)).findIdx (fun x=>node==x)=i+((T.2.drop (i+1)).findIdx (fun x=>node==x)+1):=by omega
   rw[e3]
theorem Q9o(T:Bool×List Int)(hl:T.2.length≤1000)(g node:Int):F1m T g node=some (Q1p T.2 g node):=by
 have e:=Qbg T hl g node T.2.length 0 (by omega)
 rw[Kf,K1k]at e
 have e':F8v g node T (T.2.length:Int) 0=_:=e
 rw[F1mE,e',J0,Q1p]
 cases T.2.any (fun x=>node==x)<;>rfl
theorem Q93(T:Bool×List Int)(hl:T.2.length≤1000)(g node:Int)(h:node∈T.2):F42 T g node=some (Q1p T.2 g node):=by
 have hany:(T.2.any fun x=>node==x)=true:=Kw.2 ⟨node,h,by simp⟩
 rw[F42E,Q7b T node (by omega),J0,Q1p,hany,cond_true,gF (by omega),Kz]
 rfl
theorem Q33{f:List DSaid}{x:Int}:x∈Q4 f↔x=(f.length:Int)-1∨∃i:Nat,i<f.length∧x∈trk (f.getD i (0,0)).1 (i:Int):=by
 rw[Q4,Qp,Q8y,Kd,List.mem_flatMap]
 constructor
 ·rintro(h|⟨i,h1,h2⟩)
  ·exact .inl h
  ·exact .inr ⟨i,K1y.1 h1,h2⟩
 ·rintro(h|⟨i,h1,h2⟩)
  ·exact .inl h
  ·exact .inr ⟨i,K1y.2 h1,h2⟩
theorem Qe0{f:List DSaid}{i:Nat}(hi:i<f.length)(h:(f.getD i (0,0)).1 =7∨(f.getD i (0,0)).1 =8):(i:Int)∈Q4 f:=
 Q33.2 (.inr ⟨i,hi,by unfold trk;rw[if_pos h];exact Kk⟩)
theorem Qdz{f:List DSaid}{i:Nat}(hi:i<f.length)(h:(f.getD i (0,0)).1 =7∨(f.getD i (0,0)).1 =8∨(f.getD i (0,0)).1 =4):(i:Int)-1∈Q4 f:=by
 refine Q33.2 (.inr ⟨i,hi,?_⟩)
 unfold trk
 rcases h with h|h|h
 ·rw[if_pos (.inl h)];simp
 ·rw[if_pos (.inr h)];simp
 ·rw[if_neg (by omega),if_pos h];simp
theorem Qh5{f:List DSaid}:(f.length:Int)-1∈Q4 f:=Q33.2 (.inl rfl)
theorem Q7q{f:List DSaid}(h:f.length≤16):(Q4 f).length ≤33:=by
 have h1:=Q2w (Q8y f)
 have h2:=Q61 f f.length 0
 rw[←K1c]at h2
 have h3:(Q8y f).length ≤1+2*f.length:=by rw[Q8y,Kp];omega
 have h4:(Q4 f).length ≤(Q8y f).length :=h1
 omega
theorem Qfg{x:DSaid}(h:Q1o x=true):(x.1=1∧0≤x.2∧x.2≤2)∨(x.1=2)∨x.1=3∨x.1=4∨x.1=5∨x.1=6∨x.1=7∨x.1=8:=by
 unfold Q1o at h
 by_cases a1:x.1=1
 ·rw[if_pos a1,decide_eq_true_eq]at h
  exact .inl ⟨a1,h⟩
 ·by_cases a2:x.1=2
  ·exact .inr (.inl a2)
  ·rw[if_neg a1,if_neg a2,K7,decide_eq_true_eq]at h
   have h1:=h.1
   unfold Qc at h1
   by_cases a3:x.1=3∨x.1=4
   ·omega
   ·by_cases a5:5≤x.1∧x.1≤8
    ·omega
    ·rw[if_neg (by omega),if_neg a3,if_neg a5]at h1
     omega
theorem Qfj(f:Bool×List DSaid)(hf:Qw f.2=true)(R:List (Bool×List Int))(hR:OpsAre f.2 f.2.length R)(letter next:Int)(tb:Bool)(b b':Bool)(out:List Bool)(i:Nat)(hi:i<f.2.length)(ho:out.length=i):
  ∃v,F1o letter next (b,out) (false,R) (false,Q4 f.2) f (f.2.length:Int) (i:Int)=F1o letter next (b&&false,out++[v]) (false,R) (false,Q4 f.2) f (f.2.length:Int) ((i+1:Nat):Int)∧
   F1n f (tb,Q4 f.2) letter next (b',out) f (f.2.length:Int) (i:Int)=F1n f (tb,Q4 f.2) letter next (b'&&false,out++[v]) f (f.2.length:Int) ((i+1:Nat):Int):=by
 have hlim:=J5
 obtain⟨n1,n2,n3⟩:=Qb hf
 have htl:=Q7q n2
 have hok:=Q9e hf i hi
 have eg:f.2.getD i (0,0)=f.2[i]:=by simp[K1,hi]
 rw[←eg]at hok
 have hRl:=hR.len
 have t1:decide ((i:Int)<(f.2.length:Int))=true:=decide_eq_true (by omega)
 have t2:decide (0≤(i:Int))=true:=decide_eq_true (by omega)
 have t3:decide ((i:Int)<(R.length:Int))=true:=decide_eq_true (by omega)
 have tl:∀v:Bool,decide (out.length+[v].length ≤lim)=true:=fun v=>decide_eq_true (by simp;omega)
 have hpos:=hR.pos i hi
 have hmany:=hR.many i hi
 have says:∀node,F1m (tb,Q4 f.2) next node=some (Q1p (Q4 f.2) next node):=fun node=>Q9o (tb,Q4 f.2) (by simp only;omega) next node
 have ass:∀node,node∈Q4 f.2→F42 (false,Q4 f.2) next node=some (Q1p (Q4 f.2) next node):=fun node h=>Q93 (false,Q4 f.2) (by simp only;omega) next node h
 have hun:∀n:Nat,n<4611686018427387904→IntKind.i64.wrap ((n:Int)+1)=((n+1:Nat):Int):=fun n h=>up1 n h
 have upi:=up1 i (by omega)
 rw[F1oE,F1nE]
 simp only[t1,t2,cond_true,Qj,upi,J1,tl]
 generalize hx:f.2.getD i (0,0)=x at *
 rcases Qfg hok with⟨h,m1,m2⟩|h|h|h|h|h|h|h
 ·simp only[h,Int.reduceBEq,beq_self_eq_true,cond_true,cond_false,wru (n:=x.2) (by omega),gF (show¬x.2<0 by omega)]
  exact⟨_,rfl,rfl⟩
 ·simp only[h,Int.reduceBEq,beq_self_eq_true,cond_true,cond_false]
  exact⟨_,rfl,rfl⟩
 ·have hn:Qc x.1=1:=by rw[h];rfl
  have o1:=hR.op1 i hi (by rw[hx];exact hn)
  rw[hn]at hpos hmany
  have e1:(i:Int)-1=((i-1:Nat):Int):=by omega
  have d1:decide (((i-1:Nat):Int)<(out.length:Int))=true:=decide_eq_true (by omega)
  have d2:decide (0≤((i-1:Nat):Int))=true:=decide_eq_true (by omega)
  simp only[h,Int.reduceBEq,beq_self_eq_true,cond_true,cond_false,t3,hmany,o1,e1,d1,d2,K5,Int.reduceLT,decide_true,wr (n:=((i-1:Nat):Int)) (by omega)]
  exact⟨_,rfl,rfl⟩
 ·have hn:Qc x.1=1:=by rw[h];rfl
  have o1:=hR.op1 i hi (by rw[hx];exact hn)
  rw[hn]at hpos hmany
  have e0:=ass _ (Qdz hi (by rw[hx];exact .inr (.inr h)))
  simp only[h,Int.reduceBEq,beq_self_eq_true,cond_true,cond_false,t3,hmany,o1,e0,says,J0,Int.reduceLT,decide_true,wr (n:=(i:Int)-1) (by omega),tl]
  exact⟨_,rfl,rfl⟩
 all_goals
  have hn:Qc x.1=2:=by rw[h];rfl
  obtain⟨o1,k,o2,o3⟩:=hR.op2 i hi (by rw[hx];exact hn)
  rw[hn]at hpos hmany
  have hk:=Qc3 o3
  have e1:(i:Int)-1=((i-1:Nat):Int):=by omega
  have d1:decide (((i-1:Nat):Int)<(out.length:Int))=true:=decide_eq_true (by omega)
  have d2:decide (0≤((i-1:Nat):Int))=true:=decide_eq_true (by omega)
  have d3:decide ((k:Int)<(out.length:Int))=true:=decide_eq_true (by omega)
  have d4:decide (0≤(k:Int))=true:=decide_eq_true (by omega)
  have hfrom:=Qgp f (by omega) o3 (by omega)
  have e2:IntKind.i64.wrap (((k+1:Nat):Int)-1)=(k:Int):=by rw[wr (by omega)];omega
  try have e3:=ass _ (Qe0 hi (by rw[hx];first|exact .inl h|exact .inr h))
  simp only[h,Int.reduceBEq,beq_self_eq_true,cond_true,cond_false,t3,hmany,o1,o2,e1,e2,d1,d2,d3,d4,K5,Int.reduceLT,decide_true,wr (n:=((i-1:Nat):Int)) (by omega),hfrom,says,J0,tl]
  try simp only[e3,J0,tl,cond_true]
  cases out.getD (i-1) false<;>cases out.getD k false<;>exact⟨_,rfl,rfl⟩
theorem Qy{f:List DSaid}(h:Qr f=true):Qw f=true∧(Q4 f).length ≤5:=by
 simp only[Qr,K7,decide_eq_true_eq]at h
 exact⟨h.1,by omega⟩
theorem Qe1{f:List DSaid}(R:List (Bool×List Int))(hR:OpsAre f f.length R)(h0:1≤f.length):∀x∈Q4 f,0≤x∧x<(f.length:Int):=by
 intro x hx
 rcases Q33.1 hx with rfl|⟨i,hi,h⟩
 ·omega
 ·have hp:=hR.pos i hi
  unfold trk at h
  by_cases c:(f.getD i (0,0)).1 =7∨(f.getD i (0,0)).1 =8
  ·have:Qc (f.getD i (0,0)).1 =2:=by rcases c with c|c<;>rw[c]<;>rfl
   rw[if_pos c]at h
   simp only[Kd,List.not_mem_nil,or_false]at h
   omega
  ·rw[if_neg c]at h
   by_cases c4:(f.getD i (0,0)).1 =4
   ·have:Qc (f.getD i (0,0)).1 =1:=by rw[c4];rfl
    rw[if_pos c4]at h
    simp only[Kd,List.not_mem_nil,or_false]at h
    omega
   ·rw[if_neg c4]at h
    cases h
theorem Qhw(f:Bool×List DSaid)(hf:Qw f.2=true)(R:List (Bool×List Int))(hR:OpsAre f.2 f.2.length R)(letter next:Int)(tb:Bool)(d:Nat):∀(i:Nat) (b b':Bool) (out:List Bool),i+d=f.2.length→out.length=i→
  ∃out' c c',F1o letter next (b,out) (false,R) (false,Q4 f.2) f (f.2.length:Int) (i:Int)=some (c,out')∧F1n f (tb,Q4 f.2) letter next (b',out) f (f.2.length:Int) (i:Int)=some (c',out')∧out'.length=f.2.length:=by
 induction d with
 |zero=>
  intro i b b' out hi ho
  exact⟨out,b,b',by rw[F1oE,gF (by omega)],by rw[F1nE,gF (by omega)],by omega⟩
 |succ d ih=>
  intro i b b' out hi ho
  obtain⟨v,e1,e2⟩:=Qfj f hf R hR letter next tb b b' out i (by omega) ho
  rw[e1,e2]
  exact ih (i+1) _ _ _ (by omega) (by simp[ho])
theorem Qfi(f:Bool×List DSaid)(hf:Qw f.2=true)(letter next:Int)(tb:Bool):
  ∃out c c',Fp f letter next=some (c,out)∧Fo f (tb,Q4 f.2) letter next=some (c',out)∧out.length=f.2.length:=by
 obtain⟨R,r1,hR⟩:=Qdh f hf
 obtain⟨out,c,c',e1,e2,e3⟩:=Qhw f hf R hR letter next tb f.2.length 0 false true [] (by omega) rfl
 have e1':F1o letter next (false,[]) (false,R) (false,Q4 f.2) f (f.2.length:Int) 0=_:=e1
 have e2':F1n f (tb,Q4 f.2) letter next (true,[]) f (f.2.length:Int) 0=_:=e2
 exact⟨out,c,c',by rw[FpE,r1,J0,Q0 f hf,J0];simp only[e1',J0],by rw[FoE,e2',J0],e3⟩
theorem Qf0(T:List Int)(hT:T.length≤5)(out:List Bool)(hin:∀x∈T,0≤x∧x<(out.length:Int))(tb c c':Bool)(d:Nat):∀(i a:Nat),i+d=T.length→a<2^i→
  ∃g:Nat,F6v (c,out) (a:Int) (false,T) (T.length:Int) (i:Int)=some (g:Int)∧F6k (c',out) (a:Int) (tb,T) (T.length:Int) (i:Int)=some (g:Int)∧g<2^T.length:=by
 induction d with
 |zero=>
  intro i a hi ha
  obtain rfl:i=T.length:=by omega
  exact⟨a,by rw[F6vE,gF (by omega)],by rw[F6kE,gF (by omega)],ha⟩
 |succ d ih=>
  intro i a hi ha
  have hlt:i<T.length:=by omega
  obtain⟨m1,m2⟩:=hin _ (K3 hlt)
  have hp:(2:Nat)^i≤2^5:=Nat.pow_le_pow_right (by decide) (by omega)
  have hp1:(2:Nat)^(i+1)=2^i*2:=Nat.pow_succ ..
  have hor:a|||2^i<2^(i+1):=Nat.or_lt_two_pow (by omega) (by rw[hp1];have:=Nat.two_pow_pos i;omega)
  have e:bOr .i64 (a:Int) (bShl .i64 1 (i:Int))=((a|||2^i:Nat):Int):=by
   rw[Q21 i (by omega),Qc7 a (2^i) (by omega) (by omega)]
  rw[F6vE,F6kE]
  simp only[gT (show(i:Int)<(T.length:Int) by omega),gT (show(0:Int)≤(i:Int) by omega),J2 T _ i hlt,gT m1,gT m2,wru (n:=(i:Int)) (by omega),gF (show¬(i:Int)<0 by omega),up1 i (by omega),J1,e]
  cases out.getD (T[i]).toNat false with
  |true=>exact ih (i+1) _ (by omega) hor
  |false=>exact ih (i+1) a (by omega) (by omega)
noncomputable def gssF(f:Bool×List DSaid)(letter next:Int):Nat:=((F2q f letter next).getD 0).toNat
def Q3(f:List DSaid):Nat:=2^(Q4 f).length
theorem Ql{f:List DSaid}(h:Qr f=true):1≤Q3 f∧Q3 f≤32:=by
 have h1:Q3 f≤2^5:=Nat.pow_le_pow_right (by decide) (Qy h).2
 have h2:0<Q3 f:=Nat.two_pow_pos _
 omega
theorem Q30(f:Bool×List DSaid)(hf:Qr f.2=true)(letter next:Int)(tb:Bool):
  F2q f letter next=some (gssF f letter next:Int)∧F2j f (tb,Q4 f.2) letter next=some (gssF f letter next:Int)∧gssF f letter next<Q3 f.2:=by
 obtain⟨h1,h2⟩:=Qy hf
 obtain⟨R,r1,hR⟩:=Qdh f h1
 have hin:=Qe1 R hR (Qb h1).1
 obtain⟨out,c,c',e1,e2,e3⟩:=Qfi f h1 letter next tb
 obtain⟨g,g1,g2,g3⟩:=Qf0 (Q4 f.2) h2 out (by rw[e3];exact hin) tb c c' (Q4 f.2).length 0 0 (by omega) (by decide)
 have g1':F6v (c,out) 0 (false,Q4 f.2) ((Q4 f.2).length :Int) 0=_:=g1
 have g2':F6k (c',out) 0 (tb,Q4 f.2) ((Q4 f.2).length :Int) 0=_:=g2
 have i1:F2q f letter next=some (g:Int):=by
  rw[F2qE,e1,J0,Q0 f h1,J0]
  simp only[g1',J0]
 have hg:gssF f letter next=g:=by rw[gssF,i1];rfl
 rw[hg]
 refine⟨i1,?_,g3⟩
 rw[F2jE,e2,J0]
 simp only[g2',J0]
theorem Q7g(n:Nat)(h:n≤5):bShl .i64 1 (n:Int)=((2^n:Nat):Int):=Q21 n (by omega)
theorem Q5g(f:Bool×List DSaid)(hf:Qr f.2=true):F5 f=some (Q3 f.2:Int):=by
 obtain⟨h1,h2⟩:=Qy hf
 rw[F5E,Q0 f h1,J0,gF (by omega),Q7g _ h2]
 rfl
def upTo(m:Nat)(q:Int→Bool):List Int:=((List.range m).filter fun j:Nat=>q (j:Int)).map Int.ofNat
theorem Q41(m:Nat)(q:Int→Bool)(F:Bool×List Int→Int→Option (Bool×List Int))
  (hs:∀(j:Nat) (b:Bool) (o:List Int),j<m→o.length≤j→F (b,o) (j:Int)=bif q (j:Int)then F (b&&false,o++[(j:Int)]) ((j+1:Nat):Int)else F (b,o) ((j+1:Nat):Int))
  (he:∀(b:Bool) (o:List Int),F (b,o) (m:Int)=some (b,o))(b:Bool):∃c,F (b,[]) 0=some (c,upTo m q):=by
 have key:∀(d j:Nat) (b:Bool) (o:List Int),j+d=m→o.length≤j→∃c,F (b,o) (j:Int)=some (c,o++((List.range' j d).filter fun j:Nat=>q (j:Int)).map Int.ofNat):=by
  intro d
  induction d with
  |zero=>
   intro j b o hj ho
   obtain rfl:j=m:=by omega
   exact⟨b,by rw[he];simp⟩
  |succ d ih=>
   intro j b o hj ho
   rw[hs j b o (by omega) ho,K19,K1j]
   cases hq:q (j:Int)with
   |true=>
    obtain⟨c,g⟩:=ih (j+1) (b&&false) (o++[(j:Int)]) (by omega) (by simp;omega)
    exact⟨c,by rw[cond_true,g];simp⟩
   |false=>
    obtain⟨c,g⟩:=ih (j+1) b o (by omega) (by omega)
    exact⟨c,by rw[cond_false,g];simp⟩
 obtain⟨c,g⟩:=key m 0 b [] (by omega) (by simp)
 exact⟨c,by rw[upTo,K1c];exact g⟩
theorem Q3l(m:Nat)(q:Int→Bool):(upTo m q).length ≤m:=by
 rw[upTo,Ki]
 refine K12 (K1m _ _) ?_
 simp
theorem Qan{m:Nat}{q:Int→Bool}{x:Int}:x∈upTo m q↔(0≤x∧x<(m:Int))∧q x=true:=by
 simp only[upTo,Kv,K1d,K1y]
 constructor
 ·rintro⟨i,⟨h1,h2⟩,rfl⟩
  exact⟨⟨Int.natCast_nonneg _,by simp;omega⟩,h2⟩
 ·rintro⟨⟨h1,h2⟩,h3⟩
  exact⟨x.toNat,⟨by omega,by rw[K1p h1];exact h3⟩,K1p h1⟩
def Q4z(T:List Int)(op i g:Int):Bool:=if op=7 then !Q1p T g i||Q1p T g (i-1)else Q1p T g i|| !Q1p T g (i-1)
def Q4p(f:List DSaid)(i:Nat):List (List Int):=if(f.getD i (0,0)).1 =7∨(f.getD i (0,0)).1 =8 then[upTo (Q3 f) (Q4z (Q4 f) (f.getD i (0,0)).1 (i:Int))]else[]
def Q38(f:List DSaid):List (List Int):=(List.range f.length).flatMap (Q4p f)
theorem Qcu(f:Bool×List DSaid)(hf:Qr f.2=true)(tb:Bool)(out:Bool×List (Bool×List Int))(i:Nat)(hi:i<f.2.length)(x:DSaid)(hx:x.1=7∨x.1=8)(t12:Bool×List DSaid)(t13 t14:Int):
  ∃c,F28 (tb,Q4 f.2) out (i:Int) x (true,[]) 0 t12 t13 t14=some (c,upTo (Q3 f.2) (Q4z (Q4 f.2) x.1 (i:Int))):=by
 have hlim:=J5
 obtain⟨h1,h2⟩:=Qy hf
 have hn:=(Qb h1).2.1
 have hm:=Ql hf
 have em:bShl .i64 1 (IntKind.u64.wrap ((Q4 f.2).length :Int))=(Q3 f.2:Int):=by rw[wru (by omega),Q7g _ h2];rfl
 have says:∀g node,F1m (tb,Q4 f.2) g node=some (Q1p (Q4 f.2) g node):=fun g node=>Q9o (tb,Q4 f.2) (by simp only;omega) g node
 refine Q41 (Q3 f.2) (Q4z (Q4 f.2) x.1 (i:Int)) (fun o j=>F28 (tb,Q4 f.2) out (i:Int) x o j t12 t13 t14) (fun j b o hj ho=> ?_) (fun b o=> ?_) true
 ·have tl:decide (o.length+[(j:Int)].length ≤lim)=true:=decide_eq_true (by simp;omega)
  rw[F28E]
  simp only[em,gF (show¬IntKind.u64.wrap ((Q4 f.2).length :Int)<0 by rw[wru (by omega)];omega),gT (show(j:Int)<(Q3 f.2:Int) by omega),says,J0,wr (n:=(i:Int)-1) (by omega),up1 j (by omega),J1,tl,cond_true]
  unfold Q4z
  rcases hx with hx|hx
  ·simp only[hx,Int.reduceBEq,beq_self_eq_true,cond_true,cond_false,if_true]
   cases Q1p (Q4 f.2) (j:Int) (i:Int)<;>cases Q1p (Q4 f.2) (j:Int) ((i:Int)-1)<;>rfl
  ·simp only[hx,Int.reduceBEq,beq_self_eq_true,cond_true,cond_false]
   rw[if_neg (by decide)]
   cases Q1p (Q4 f.2) (j:Int) (i:Int)<;>cases Q1p (Q4 f.2) (j:Int) ((i:Int)-1)<;>rfl
 ·rw[F28E]
  simp only[em,gF (show¬IntKind.u64.wrap ((Q4 f.2).length :Int)<0 by rw[wru (by omega)];omega)]
  rw[gF (by omega)]
theorem Q9n(f:Bool×List DSaid)(hf:Qr f.2=true)(tb:Bool)(d:Nat):∀(i:Nat) (b:Bool) (o:List (Bool×List Int)),i+d=f.2.length→o.length≤i→
  ∃c X,F4r (tb,Q4 f.2) (b,o) f (f.2.length:Int) (i:Int)=some (c,o++X)∧X.map Prod.snd=(List.range' i d).flatMap (Q4p f.2)∧X.length≤d:=by
 have hlim:=J5
 obtain⟨h1,h2⟩:=Qy hf
 have hn:=(Qb h1).2.1
 induction d with
 |zero=>
  intro i b o hi ho
  exact⟨b,[],by rw[F4rE,gF (by omega)];simp,by simp,by simp⟩
 |succ d ih=>
  intro i b o hi ho
  have hlt:i<f.2.length:=by omega
  rw[F4rE,gT (by omega),gT (by omega),gT (by omega),Qj,up1 i (by omega),K19,K17]
  by_cases c:(f.2.getD i (0,0)).1 =7∨(f.2.getD i (0,0)).1 =8
  ·obtain⟨c0,e0⟩:=Qcu f hf tb (b,o) i hlt (f.2.getD i (0,0)) c f (f.2.length:Int) (i:Int)
   obtain⟨c1,X,g1,g2,g3⟩:=ih (i+1) (b&&false) (o++[(c0,upTo (Q3 f.2) (Q4z (Q4 f.2) (f.2.getD i (0,0)).1 (i:Int)))]) (by omega) (by simp;omega)
   refine⟨c1,(c0,upTo (Q3 f.2) (Q4z (Q4 f.2) (f.2.getD i (0,0)).1 (i:Int)))::X,?_,?_,by simp;omega⟩
   ·simp only[e0,J0]
    rcases c with c|c<;>simp only[c,Int.reduceBNe,bne_self_eq_false,cond_true,cond_false]<;>rw[c]at g1<;>rw[gT (by simp;omega),J1,g1]<;>simp
   ·rw[Q4p,if_pos c,K14,g2]
    rfl
  ·obtain⟨c1,X,g1,g2,g3⟩:=ih (i+1) b o (by omega) (by omega)
   refine⟨c1,X,?_,?_,by omega⟩
   ·rw[bT (by rw[bne_iff_ne];omega),bT (by rw[bne_iff_ne];omega),J1,g1]
   ·rw[Q4p,if_neg c,g2]
    rfl
theorem Qf3(f:Bool×List DSaid)(hf:Qr f.2=true)(tb:Bool):∃c X,Fd f (tb,Q4 f.2)=some (c,X)∧X.map Prod.snd=Q38 f.2∧X.length≤f.2.length:=by
 obtain⟨c,X,g1,g2,g3⟩:=Q9n f hf tb f.2.length 0 true [] (by omega) (by simp)
 have g1':F4r (tb,Q4 f.2) (true,[]) f (f.2.length:Int) 0=_:=g1
 exact⟨c,X,by rw[FdE,g1',J0];rfl,by rw[g2,Q38,K1c],g3⟩
theorem Qct(f:Bool×List DSaid)(hf:Qr f.2=true)(R:List (Bool×List Int))(hR:OpsAre f.2 f.2.length R)(i:Nat)(hi:i<f.2.length)(hx:(f.2.getD i (0,0)).1 =7∨(f.2.getD i (0,0)).1 =8):
  ∃c,F21 f ((false,Q4 f.2),((i:Int),((false,R),((f.2.getD i (0,0)),()))))=some (c,upTo (Q3 f.2) (Q4z (Q4 f.2) (f.2.getD i (0,0)).1 (i:Int))):=by
 have hlim:=J5
 obtain⟨h1,h2⟩:=Qy hf
 have hn:=(Qb h1).2.1
 have hm:=Ql hf
 have hRl:=hR.len
 have hneed:Qc (f.2.getD i (0,0)).1 =2:=by rcases hx with h|h<;>rw[h]<;>rfl
 have hmany:=hR.many i hi
 obtain⟨o1,_⟩:=hR.op2 i hi hneed
 rw[hneed]at hmany
 have ass:∀g node,node∈Q4 f.2→F42 (false,Q4 f.2) g node=some (Q1p (Q4 f.2) g node):=fun g node h=>Q93 (false,Q4 f.2) (by simp only;omega) g node h
 have one:∀g:Int,F5b g (false,Q4 f.2) (i:Int) (false,R) (f.2.getD i (0,0))=some (Q4z (Q4 f.2) (f.2.getD i (0,0)).1 (i:Int) g):=by
  intro g
  rw[F5bE,ass g _ (Qe0 hi hx),J0,gT (by omega),gT (by simp only;omega)]
  simp only[Qj,hmany,Int.reduceLT,decide_true,cond_true,o1]
  rw[ass g _ (Qdz hi (by omega)),J0]
  unfold Q4z
  rcases hx with hx|hx
  ·simp only[hx,Int.reduceBEq,beq_self_eq_true,cond_true,cond_false,if_true]
   cases Q1p (Q4 f.2) g (i:Int)<;>cases Q1p (Q4 f.2) g ((i:Int)-1)<;>rfl
  ·simp only[hx,Int.reduceBEq,beq_self_eq_true,cond_true,cond_false]
   rw[if_neg (by decide)]
   cases Q1p (Q4 f.2) g (i:Int)<;>cases Q1p (Q4 f.2) g ((i:Int)-1)<;>rfl
 obtain⟨c,e⟩:=Q41 (Q3 f.2) (Q4z (Q4 f.2) (f.2.getD i (0,0)).1 (i:Int)) (fun o j=>F75 ((false,Q4 f.2),((i:Int),((false,R),((f.2.getD i (0,0)),())))) o (Q3 f.2:Int) j) (fun j b o hj ho=>by
  have tl:decide (o.length+[(j:Int)].length ≤lim)=true:=decide_eq_true (by simp;omega)
  rw[F75E,gT (by omega)]
  simp only[one,J0,up1 j (by omega),J1,tl,cond_true]) (fun b o=>by
  rw[F75E,gF (by omega)]) false
 exact⟨c,by rw[F21E,Q5g f hf,J0];rw[show F75 _ (false,[]) (Q3 f.2:Int) 0=_ from e,J0]⟩
theorem Qba(f:Bool×List DSaid)(hf:Qr f.2=true)(R:List (Bool×List Int))(hR:OpsAre f.2 f.2.length R)(d:Nat):∀(i:Nat) (b:Bool) (o:List (Bool×List Int)),i+d=f.2.length→o.length≤i→
  ∃c X,F4y f (b,o) (false,R) (false,Q4 f.2) f (f.2.length:Int) (i:Int)=some (c,o++X)∧X.map Prod.snd=(List.range' i d).flatMap (Q4p f.2)∧X.length≤d:=by
 have hlim:=J5
 obtain⟨h1,h2⟩:=Qy hf
 have hn:=(Qb h1).2.1
 induction d with
 |zero=>
  intro i b o hi ho
  exact⟨b,[],by rw[F4yE,gF (by omega)];simp,by simp,by simp⟩
 |succ d ih=>
  intro i b o hi ho
  have hlt:i<f.2.length:=by omega
  rw[F4yE,gT (by omega),gT (by omega),gT (by omega),Qj,up1 i (by omega),K19,K17]
  by_cases c:(f.2.getD i (0,0)).1 =7∨(f.2.getD i (0,0)).1 =8
  ·obtain⟨c0,e0⟩:=Qct f hf R hR i hlt c
   obtain⟨c1,X,g1,g2,g3⟩:=ih (i+1) (b&&false) (o++[(c0,upTo (Q3 f.2) (Q4z (Q4 f.2) (f.2.getD i (0,0)).1 (i:Int)))]) (by omega) (by simp;omega)
   refine⟨c1,(c0,upTo (Q3 f.2) (Q4z (Q4 f.2) (f.2.getD i (0,0)).1 (i:Int)))::X,?_,?_,by simp;omega⟩
   ·simp only[e0,J0]
    rcases c with c|c<;>simp only[c,Int.reduceBNe,bne_self_eq_false,cond_true,cond_false]<;>rw[c]at g1<;>rw[gT (by simp;omega),J1,g1]<;>simp
   ·rw[Q4p,if_pos c,K14,g2]
    rfl
  ·obtain⟨c1,X,g1,g2,g3⟩:=ih (i+1) b o (by omega) (by omega)
   refine⟨c1,X,?_,?_,by omega⟩
   ·rw[bT (by rw[bne_iff_ne];omega),bT (by rw[bne_iff_ne];omega),J1,g1]
   ·rw[Q4p,if_neg c,g2]
    rfl
theorem Qgm(f:Bool×List DSaid)(hf:Qr f.2=true):∃c X,F10 f=some (c,X)∧X.map Prod.snd=Q38 f.2∧X.length≤f.2.length:=by
 obtain⟨h1,h2⟩:=Qy hf
 obtain⟨R,r1,hR⟩:=Qdh f h1
 obtain⟨c,X,g1,g2,g3⟩:=Qba f hf R hR f.2.length 0 false [] (by omega) (by simp)
 have g1':F4y f (false,[]) (false,R) (false,Q4 f.2) f (f.2.length:Int) 0=_:=g1
 exact⟨c,X,by rw[F10E,r1,J0,Q0 f h1,J0];simp only[g1',J0];rfl,by rw[g2,Q38,K1c],g3⟩
def Q2e(f:List DSaid):List Int:=upTo (Q3 f) fun g=> !Q1p (Q4 f) g ((f.length:Int)-1)
theorem Qhy(f:Bool×List DSaid)(hf:Qr f.2=true):∃c,F40 f false=some (c,Q2e f.2):=by
 have hlim:=J5
 obtain⟨h1,h2⟩:=Qy hf
 have hn:=(Qb h1).2.1
 have hm:=Ql hf
 have one:∀g:Int,F6x g (false,Q4 f.2) f false=some (!Q1p (Q4 f.2) g ((f.2.length:Int)-1)):=by
  intro g
  rw[F6xE,wr (by omega),Q93 (false,Q4 f.2) (by simp only;omega) g _ Qh5,J0]
  cases Q1p (Q4 f.2) g ((f.2.length:Int)-1)<;>rfl
 obtain⟨c,e⟩:=Q41 (Q3 f.2) (fun g=> !Q1p (Q4 f.2) g ((f.2.length:Int)-1)) (fun o j=>F69 ((false,Q4 f.2),(f,(false,()))) o (Q3 f.2:Int) j) (fun j b o hj ho=>by
  have tl:decide (o.length+[(j:Int)].length ≤lim)=true:=decide_eq_true (by simp;omega)
  rw[F69E,gT (by omega)]
  simp only[one,J0,up1 j (by omega),J1,tl,cond_true]) (fun b o=>by
  rw[F69E,gF (by omega)]) false
 have e':F69 ((false,Q4 f.2),(f,(false,()))) (false,[]) (Q3 f.2:Int) 0=_:=e
 exact⟨c,by rw[F40E,Q0 f h1,J0,F2pE,Q5g f hf,J0];simp only[e',J0];rfl⟩
noncomputable def Q1a(f:Bool×List DSaid)(g l:Nat):List DEdge:=((List.range (Q3 f.2)).filter fun h:Nat=>gssF f (l:Int) (h:Int)==g).map fun h:Nat=>((g:Int),((l:Int),(h:Int)))
noncomputable def Q1e(f:Bool×List DSaid):List DEdge:=(List.range (Q3 f.2)).flatMap fun g=>(List.range 8).flatMap fun l=>Q1a f g l
theorem Qgg(f:Bool×List DSaid)(t4:DAuto)(hf:Qr f.2=true)(tb nt:Bool)(o0:Int)(o1:Bool×List Int)(o3:Bool×List (Bool×List Int))(g l:Nat)(d:Nat):∀(j:Nat) (b:Bool) (E:List DEdge),j+d=Q3 f.2→E.length+d≤1000000→
  ∃c,F72 f nt t4 (tb,Q4 f.2) (Q3 f.2:Int) o0 o1 (b,E) o3 (g:Int) (l:Int) (j:Int)=some (o0,o1,(c,E++((List.range' j d).filter fun h:Nat=>gssF f (l:Int) (h:Int)==g).map fun h:Nat=>((g:Int),((l:Int),(h:Int)))),o3):=by
 have hlim:=J5
 have hm:=Ql hf
 induction d with
 |zero=>
  intro j b E hj hE
  exact⟨b,by rw[F72E,gF (by omega)];simp⟩
 |succ d ih=>
  intro j b E hj hE
  rw[F72E,gT (by omega),(Q30 f hf (l:Int) (j:Int) tb).2.1,J0,up1 j (by omega),K19,K1j]
  by_cases e:gssF f (l:Int) (j:Int)=g
  ·obtain⟨c,h⟩:=ih (j+1) (b&&false) (E++[((g:Int),((l:Int),(j:Int)))]) (by omega) (by simp;omega)
   refine⟨c,?_⟩
   rw[e,beq_self_eq_true,beq_self_eq_true,cond_true,if_pos rfl,gT (by simp;omega),J1,h]
   simp
  ·obtain⟨c,h⟩:=ih (j+1) b E (by omega) (by omega)
   refine⟨c,?_⟩
   rw[show((gssF f (l:Int) (j:Int):Int)==(g:Int))=false from beqF (by omega),cond_false,show(gssF f (l:Int) (j:Int)==g)=false from by rw[beq_eq_false_iff_ne];exact e,if_neg (by decide),J1,h]
theorem Q27(f:Bool×List DSaid)(g l:Nat):(Q1a f g l).length ≤Q3 f.2:=by
 rw[Q1a,Ki]
 refine K12 (K1m _ _) ?_
 simp
theorem Qv{α β:Type}(l:List α)(h:α→List β)(n:Nat)(hn:∀x∈l,(h x).length ≤n):(l.flatMap h).length ≤l.length*n:=by
 induction l with
 |nil=>simp
 |cons x l ih=>
  have h1:=hn x Kk
  have h2:=ih fun y hy=>hn y (K9 _ hy)
  rw[K17,Kg,Kp,K1a]
  omega
theorem Qgf(f:Bool×List DSaid)(t4:DAuto)(hf:Qr f.2=true)(tb nt:Bool)(o0:Int)(o1:Bool×List Int)(o3:Bool×List (Bool×List Int))(g:Nat)(d:Nat):∀(l:Nat) (b:Bool) (E:List DEdge),l+d=8→E.length+32*d≤100000→
  ∃c,F5k f nt t4 (tb,Q4 f.2) (Q3 f.2:Int) o0 o1 (b,E) o3 (g:Int) (l:Int)=some (o0,o1,(c,E++(List.range' l d).flatMap fun l=>Q1a f g l),o3):=by
 have hm:=Ql hf
 induction d with
 |zero=>
  intro l b E hl hE
  exact⟨b,by rw[F5kE,gF (by omega)];simp⟩
 |succ d ih=>
  intro l b E hl hE
  obtain⟨c,h⟩:=Qgg f t4 hf tb nt o0 o1 o3 g l (Q3 f.2) 0 b E (by omega) (by omega)
  rw[←K1c]at h
  have hr:=Q27 f g l
  obtain⟨c2,h2⟩:=ih (l+1) c (E++Q1a f g l) (by omega) (by simp;omega)
  refine⟨c2,?_⟩
  have h':F72 f nt t4 (tb,Q4 f.2) (Q3 f.2:Int) o0 (o1.1,o1.2) (b,E) o3 (g:Int) (l:Int) 0=_:=h
  rw[F5kE,gT (by omega)]
  simp only[h',J0,J1,up1 l (by omega)]
  have h2':F5k f nt t4 (tb,Q4 f.2) (Q3 f.2:Int) o0 (o1.1,o1.2) (c,E++Q1a f g l) o3 (g:Int) ((l+1:Nat):Int)=_:=h2
  rw[K19,K17,←Kj]
  exact h2'
theorem Qge(f:Bool×List DSaid)(t4:DAuto)(hf:Qr f.2=true)(tb:Bool)(o0:Int)(o3:Bool×List (Bool×List Int))(d:Nat):∀(g:Nat) (a b:Bool) (o:List Int) (E:List DEdge),g+d=Q3 f.2→o.length≤g→E.length≤256*g→
  ∃c c',F5a f true t4 (tb,Q4 f.2) (Q3 f.2:Int) o0 (a,o) (b,E) o3 (g:Int)=some (o0,(c,o++((List.range' g d).filter fun j:Nat=> !Q1p (Q4 f.2) (j:Int) ((f.2.length:Int)-1)).map Int.ofNat),(c',E++(List.range' g d).flatMap fun g=>(List.range 8).flatMap fun l=>Q1a f g l),o3):=by
 have hlim:=J5
 have hm:=Ql hf
 obtain⟨h1,h2⟩:=Qy hf
 have hn:=(Qb h1).2.1
 induction d with
 |zero=>
  intro g a b o E hg ho hE
  exact⟨a,b,by rw[F5aE,gF (by omega)];simp⟩
 |succ d ih=>
  intro g a b o E hg ho hE
  have hlen:((List.range 8).flatMap fun l=>Q1a f g l).length ≤256:=by
   have:=Qv (List.range 8) (fun l=>Q1a f g l) 32 (fun l _=>by have:=Q27 f g l;omega)
   simpa using this
  have says:=Q9o (tb,Q4 f.2) (by simp only;omega) (g:Int) ((f.2.length:Int)-1)
  rw[F5aE,gT (by omega),wr (n:=(f.2.length:Int)-1) (by omega),says,J0,up1 g (by omega),K19,K1j,K17]
  have two8:∀(a:Bool) (o:List Int),∃c,F5k f true t4 (tb,Q4 f.2) (Q3 f.2:Int) o0 (a,o) (b,E) o3 (g:Int) 0=some (o0,(a,o),(c,E++(List.range 8).flatMap fun l=>Q1a f g l),o3):=by
   intro a o
   obtain⟨c,h⟩:=Qgf f t4 hf tb true o0 (a,o) o3 g 8 0 b E (by omega) (by omega)
   rw[←K1c]at h
   exact⟨c,h⟩
  cases hs:Q1p (Q4 f.2) (g:Int) ((f.2.length:Int)-1)with
  |false=>
   obtain⟨c,e⟩:=two8 (a&&false) (o++[(g:Int)])
   obtain⟨c2,c3,e2⟩:=ih (g+1) (a&&false) c (o++[(g:Int)]) (E++(List.range 8).flatMap fun l=>Q1a f g l) (by omega) (by simp;omega) (by rw[Kg];omega)
   refine⟨c2,c3,?_⟩
   rw[show(!(false==true))=true from rfl,cond_true,gT (by simp;omega),e,J0]
   simp only
   rw[J1,e2]
   simp
  |true=>
   obtain⟨c,e⟩:=two8 a o
   obtain⟨c2,c3,e2⟩:=ih (g+1) a c o (E++(List.range 8).flatMap fun l=>Q1a f g l) (by omega) (by omega) (by rw[Kg];omega)
   refine⟨c2,c3,?_⟩
   rw[show(!(true==true))=false from rfl,cond_false,e,J0]
   simp only
   rw[J1,e2]
   simp
theorem Qgr(f:Bool×List DSaid)(hf:Qr f.2=true):∃c c' c'' X,Fk f true=some ((Q3 f.2:Int),(c,Q2e f.2),(c',Q1e f),(c'',X))∧X.map Prod.snd=Q38 f.2∧X.length≤f.2.length:=by
 obtain⟨h1,h2⟩:=Qy hf
 have hn:=(Qb h1).2.1
 have hm:=Ql hf
 obtain⟨tb,e1⟩:=Q6n f (by omega)
 obtain⟨c'',X,g1,g2,g3⟩:=Qf3 f hf tb
 have em:bShl .i64 1 (IntKind.u64.wrap ((Q4 f.2).length :Int))=(Q3 f.2:Int):=by rw[wru (by omega),Q7g _ h2];rfl
 obtain⟨c,c',e2⟩:=Qge f (0,((true,[]),((true,[]),(true,[])))) hf tb (Q3 f.2:Int) (c'',X) (Q3 f.2) 0 true true [] [] (by omega) (by simp) (by simp)
 have e2':F5a f true (0,((true,[]),((true,[]),(true,[])))) (tb,Q4 f.2) (Q3 f.2:Int) (Q3 f.2:Int) (true,[]) (true,[]) (c'',X) 0=_:=e2
 refine⟨c,c',c'',X,?_,g2,g3⟩
 rw[FkE,e1,J0,gF (by rw[wru (by simp only;omega)];simp only;omega),g1,J0]
 simp only[em,e2',J0,Q2e,upTo,Q1e,Kt,K1c]
theorem Q4l(f:Bool×List DSaid)(hf:Qr f.2=true):(Q1e f).length ≤8192:=by
 have hm:=Ql hf
 have h1:=Qv (List.range (Q3 f.2)) (fun g=>(List.range 8).flatMap fun l=>Q1a f g l) 256 (fun g _=>by
  have:=Qv (List.range 8) (fun l=>Q1a f g l) 32 (fun l _=>by have:=Q27 f g l;omega)
  simpa using this)
 rw[List.length_range]at h1
 rw[Q1e]
 omega
theorem Q4e{f:Bool×List DSaid}{x:DEdge}:x∈Q1e f↔∃g l h:Nat,g<Q3 f.2∧l<8∧h<Q3 f.2∧gssF f (l:Int) (h:Int)=g∧x=((g:Int),((l:Int),(h:Int))):=by
 simp only[Q1e,Q1a,List.mem_flatMap,Kv,K1d,K1y,beq_iff_eq]
 constructor
 ·rintro⟨g,h1,l,h2,h,⟨h3,h4⟩,rfl⟩
  exact⟨g,l,h,h1,h2,h3,h4,rfl⟩
 ·rintro⟨g,l,h,h1,h2,h3,h4,rfl⟩
  exact⟨g,h1,l,h2,h,⟨h3,h4⟩,rfl⟩
def Q1i(X:List (Bool×List Int))(k:Nat):List Int:=(X.getD k (true,[])).2
def pick(S:List (Nat×Int))(k:Nat):List Int:=(S.filter fun e=>e.1==k).map Prod.snd
theorem Q5q(S S':List (Nat×Int))(k:Nat):pick (S++S') k=pick S k++pick S' k:=by
 simp[pick]
theorem Q3h(S:List (Nat×Int))(k:Nat):(pick S k).length ≤S.length:=by
 rw[pick,Ki]
 exact K1m _ _
theorem Q32{S:List (Nat×Int)}{k:Nat}{z:Int}:z∈pick S k↔(k,z)∈S:=by
 simp only[pick,Kv,K1d,beq_iff_eq]
 constructor
 ·rintro⟨⟨a,b⟩,⟨h1,h2⟩,h3⟩
  simp only at h2 h3
  subst h2 h3
  exact h1
 ·intro h
  exact⟨(k,z),⟨h,rfl⟩,rfl⟩
structure Did (X X':List (Bool×List Int)) (S:List (Nat×Int)):Prop where
 len:X'.length=X.length
 row:∀k:Nat,k<X.length→Q1i X' k=Q1i X k++pick S k
def Bnd(X:List (Bool×List Int))(n:Nat):Prop:=∀k:Nat,k<X.length→(Q1i X k).length ≤n
theorem Did.refl(X:List (Bool×List Int)):Did X X []:=⟨rfl,fun k _=>by simp[pick]⟩
theorem Did.trans{X X' X'':List (Bool×List Int)}{S S':List (Nat×Int)}(h:Did X X' S)(h':Did X' X'' S'):Did X X'' (S++S'):=by
 refine⟨by rw[h'.len,h.len],fun k hk=> ?_⟩
 rw[h'.row k (by rw[h.len];exact hk),h.row k hk,Q5q,Kj]
theorem Did.bnd{X X':List (Bool×List Int)}{S:List (Nat×Int)}(h:Did X X' S){n:Nat}(hb:Bnd X n):Bnd X' (n+S.length):=by
 intro k hk
 rw[h.len]at hk
 rw[h.row k hk,Kg]
 have:=hb k hk
 have:=Q3h S k
 omega
theorem Did.put{X:List (Bool×List Int)}{k:Nat}(hk:k<X.length)(b:Bool)(z:Int):Did X (X.set k (b,Q1i X k++[z])) [(k,z)]:=by
 refine⟨Ko,fun j hj=> ?_⟩
 by_cases e:k=j
 ·subst e
  simp[Q1i,K1,hk,pick]
 ·have e':(k==j)=false:=by rw[beq_eq_false_iff_ne];exact e
  simp[Q1i,K1,List.getElem?_set_ne e,pick,e']
theorem Q5r{α:Type}(l:List α)(S:α→List (Nat×Int))(k:Nat):pick (l.flatMap S) k=l.flatMap fun a=>pick (S a) k:=by
 induction l with
 |nil=>rfl
 |cons a l ih=>rw[K17,K17,Q5q,ih]
theorem flatMap_nil{α β:Type}(l:List α)(P:α→List β)(h:∀a∈l,P a=[]):l.flatMap P=[]:=by
 induction l with
 |nil=>rfl
 |cons a l ih=>rw[K17,h a Kk,ih fun b hb=>h b (K9 _ hb)];rfl
theorem Q4m{β:Type}(P:Nat→List β)(c:Nat)(h:∀a,a≠c→P a=[])(d:Nat):∀i:Nat,(List.range' i d).flatMap P=if i≤c∧c<i+d then P c else[]:=by
 induction d with
 |zero=>intro i;rw[if_neg (by omega)];rfl
 |succ d ih=>
  intro i
  rw[K19,K17,ih (i+1)]
  by_cases e:i=c
  ·subst e
   rw[if_neg (by omega),if_pos (by omega),K1s]
  ·rw[h i e,Kt]
   by_cases e2:i+1≤c∧c<i+1+d
   ·rw[if_pos e2,if_pos (by omega)]
   ·rw[if_neg e2,if_neg (by omega)]
theorem Q7l{a b:List Int}(ha:Q10 a)(hb:Q10 b)(h:∀x∈a,∀y∈b,x<y):Q10 (a++b):=List.pairwise_append.2 ⟨ha,hb,h⟩
theorem Q7m(l:List Int)(hl:Q10 l)(P:Int→List Int)(m:Int)(h1:∀x∈l,Q10 (P x))(h2:∀x∈l,∀y∈P x,x*m≤y∧y<(x+1)*m)(hm:0<m):Q10 (l.flatMap P):=by
 induction l with
 |nil=>exact List.Pairwise.nil
 |cons x l ih=>
  rw[K17]
  refine Q7l (h1 x Kk) (ih (List.Pairwise.of_cons hl) (fun y hy=>h1 y (K9 _ hy)) (fun y hy=>h2 y (K9 _ hy))) (fun a ha b hb=> ?_)
  obtain⟨y,hy,hb⟩:=List.mem_flatMap.1 hb
  have hxy:=List.rel_of_pairwise_cons hl hy
  have a1:=h2 x Kk a ha
  have b1:=h2 y (K9 _ hy) b hb
  have:(x+1)*m≤y*m:=Int.mul_le_mul_of_nonneg_right (by omega) (by omega)
  omega
theorem Q5u{a b:List Int}(hb:Q10 b)(h:∀x,x∈a↔x∈b):Qs a=b:=Q36 _ _ (Qk a) hb fun x=>by rw[Qp,h x]
theorem Q5y{p:DProgram}{v:List Int}(h:Sees p v)(c:Int):∀x∈Q12 p v c,0≤x∧x<Q23 v:=by
 intro x hx
 rw[Q12,Qp]at hx
 exact Q72 v (fun y hy=>(h.inn y hy).1) _ (fun y hy=>by rw[h.len];exact Q2u h.ok _ (h.inClass c) y hy) x hx
noncomputable def ltC(q:DQuestion)(v:DSight)(c:Int):Int:=(F59 q v c).getD 0
theorem Q7f{q:DQuestion}(h:Asks q){v:DSight}(hv:Sees q.1 v.2)(hf:FitQ q v.2)(c:Int)(hc:c∈v.2):
  F59 q v c=some (ltC q v c)∧F6f q v c=some (ltC q v c)∧0≤ltC q v c∧ltC q v c≤7:=by
 obtain⟨r,e1,e2,e3,e4,_⟩:=Q4v h hv hf c hc v.1 v.1
 have e1':F59 q v c=some r:=e1
 have:ltC q v c=r:=by rw[ltC,e1'];rfl
 rw[this]
 exact⟨e1',e2,e3,e4⟩
theorem Qca(q:DQuestion)(v:DSight)(a:DAuto)(many c L:Int)(after:Bool×List Int)(e:DEdge)(t47:Bool×List DEdge)(t48 t49:Int)(idx:Nat)(hidx:IntKind.i64.wrap (IntKind.i64.wrap (c*a.1)+e.1)=(idx:Int))
  (val:Int→Int)(hval:∀to∈after.2,IntKind.i64.wrap (IntKind.i64.wrap (to*a.1)+e.2.2)=val to)(hal:after.2.length≤1000)(d:Nat):∀(i:Nat) (X:List (Bool×List Int)) (n:Nat),i+d=after.2.length→idx<X.length→Bnd X n→n+d≤1000000000→
  ∃X',F83 q v a many (false,X) c L after e t47 t48 t49 after (after.2.length:Int) (i:Int)=some (false,X')∧Did X X' ((after.2.drop i).map fun to=>(idx,val to)):=by
 have hlim:=J5
 induction d with
 |zero=>
  intro i X n hi hX hB hn
  refine⟨X,by rw[F83E,gF (by omega)],?_⟩
  rw[K8 (by omega)]
  exact Did.refl X
 |succ d ih=>
  intro i X n hi hX hB hn
  have hlt:i<after.2.length:=by omega
  have hb:(X.getD idx (true,[])).2.length ≤n:=hB idx hX
  have hput:=Did.put hX ((X.getD idx (true,[])).1 &&false) (val after.2[i])
  obtain⟨X',g1,g2⟩:=ih (i+1) (X.set idx ((X.getD idx (true,[])).1 &&false,Q1i X idx++[val after.2[i]])) (n+1) (by omega) (by rw[Ko];exact hX) (hput.bnd hB) (by omega)
  have eg:after.2.getD i 0=after.2[i]:=by simp[K1,hlt]
  refine⟨X',?_,?_⟩
  ·rw[F83E]
   simp only[gT (show(i:Int)<(after.2.length:Int) by omega),gT (show(0:Int)≤(i:Int) by omega),eg,hidx,hval _ (K3 hlt),K5,gT (show(0:Int)≤(idx:Int) by omega),gT (show(idx:Int)<(X.length:Int) by omega),beq_self_eq_true,cond_true,up1 i (by omega),J1]
   rw[gT (by simp only[Kp,K1q];omega)]
   exact g1
  ·rw[K2 hlt,K14]
   exact hput.trans g2
def Q4x(c:Nat)(L:Int)(m:Nat)(after:List Int)(e:DEdge):List (Nat×Int):=if e.2.1=L then after.map fun to=>(c*m+e.1.toNat,to*m+e.2.2)else[]
theorem Qce{c g m n:Nat}(hc:c<n)(hg:g<m):c*m+g<n*m:=by
 have:(c+1)*m≤n*m:=Ku _ hc
 rw[K1a]at this
 omega
theorem Q58{c g m n:Nat}(hc:c<n)(hg:g<m)(hn:n≤40)(hm:m≤40):IntKind.i64.wrap (IntKind.i64.wrap ((c:Int)*(m:Int))+(g:Int))=((c*m+g:Nat):Int):=by
 have h1:c*m≤40*40:=Nat.mul_le_mul (by omega) hm
 have e:(c:Int)*(m:Int)=((c*m:Nat):Int):=(Int.natCast_mul c m).symm
 rw[e,wr (n:=((c*m:Nat):Int)) (by omega),wr (by omega)]
 omega
theorem Q7r{to:Int}{g m n:Nat}(h0:0≤to∧to<(n:Int))(hg:g<m)(hn:n≤40)(hm:m≤40):IntKind.i64.wrap (IntKind.i64.wrap (to*(m:Int))+(g:Int))=to*m+g:=by
 obtain⟨t,rfl⟩:=Ke h0.1
 rw[Q58 (c:=t) (g:=g) (m:=m) (n:=n) (by omega) hg hn hm]
 push_cast
 rfl
theorem Q2t(c:Nat)(L:Int)(m:Nat)(after:List Int)(e:DEdge):(Q4x c L m after e).length ≤after.length:=by
 unfold Q4x
 split
 ·rw[Ki];exact Ky _
 ·simp
theorem Qc9(q:DQuestion)(v:DSight)(a:DAuto)(m n:Nat)(ha:a.1=(m:Int))(hm:m≤40)(hn:n≤40)(many:Int)(c:Nat)(hc:c<n)(L:Int)(after:Bool×List Int)(hal:after.2.length≤40)(hin:∀to∈after.2,0≤to∧to<(n:Int))
  (E:Bool×List DEdge)(hE:∀e∈E.2,∃g l h:Nat,g<m∧h<m∧e=((g:Int),((l:Int),(h:Int))))(hEl:E.2.length≤10000)(d:Nat):∀(i:Nat) (X:List (Bool×List Int)) (b:Nat),i+d=E.2.length→X.length=n*m→Bnd X b→b+40*d≤900000000→
  ∃X',F5r q v a many (false,X) (c:Int) L after E (E.2.length:Int) (i:Int)=some (false,X')∧Did X X' ((E.2.drop i).flatMap (Q4x c L m after.2)):=by
 induction d with
 |zero=>
  intro i X b hi hX hB hb
  refine⟨X,by rw[F5rE,gF (by omega)],?_⟩
  rw[K8 (by omega)]
  exact Did.refl X
 |succ d ih=>
  intro i X b hi hX hB hb
  have hlt:i<E.2.length:=by omega
  obtain⟨g,l,h,hg,hh,he⟩:=hE _ (K3 hlt)
  rw[F5rE,gT (by omega),gT (by omega),gT (by omega),J2 E.2 _ i hlt,up1 i (by omega),K2 hlt,K17]
  by_cases e:E.2[i].2.1 =L
  ·have hS:Q4x c L m after.2 E.2[i]=after.2.map fun to=>(c*m+g,to*m+(h:Int)):=by
    unfold Q4x
    rw[if_pos e,he]
    rfl
   obtain⟨X1,g1,g2⟩:=Qca q v a many (c:Int) L after E.2[i] E (E.2.length:Int) (i:Int) (c*m+g) (by rw[ha,he];exact Q58 hc hg hn hm) (fun to=>to*m+(h:Int)) (fun to hto=>by rw[ha,he];exact Q7r (hin to hto) hh hn hm) (by omega) after.2.length 0 X b (by omega) (by rw[hX];exact Qce hc hg) hB (by omega)
   rw[Kf,←hS]at g2
   have hlen:=Q2t c L m after.2 E.2[i]
   obtain⟨X',g3,g4⟩:=ih (i+1) X1 (b+(Q4x c L m after.2 E.2[i]).length) (by omega) (by rw[g2.len];exact hX) (g2.bnd hB) (by omega)
   refine⟨X',?_,g2.trans g4⟩
   have g1':F83 q v a many (false,X) (c:Int) L after E.2[i] E (E.2.length:Int) (i:Int) after (after.2.length:Int) 0=_:=g1
   rw[bT (by rw[beq_iff_eq];exact e)]
   simp only[g1',J0,J1,g3]
  ·have hS:Q4x c L m after.2 E.2[i]=[]:=if_neg e
   obtain⟨X',g3,g4⟩:=ih (i+1) X b (by omega) hX hB (by omega)
   refine⟨X',?_,?_⟩
   ·rw[bF (beqF e),J1,g3]
   ·rw[hS,Kt]
    exact g4
noncomputable def Q3j(q:DQuestion)(v:DSight)(c:Nat):List (Nat×Int):=(Q1e q.2.2).flatMap (Q4x c (ltC q v (c:Int)) (Q3 q.2.2.2) (Q12 q.1 v.2 (c:Int)))
theorem Qc8{q:DQuestion}(h:Asks q){v:DSight}(hv:Sees q.1 v.2)(hg:Qn q.1 v.2=true)(hf:FitQ q v.2)(n:Nat)(hn:Q23 v.2=n)(cf ce:Bool)(G:Bool×List (Bool×List Int))(d:Nat):∀(c:Nat) (X:List (Bool×List Int)) (b:Nat),c+d=n→X.length=n*Q3 q.2.2.2→Bnd X b→b+400000*d≤800000000→
  ∃X',F7e q v ((Q3 q.2.2.2:Int),(cf,Q2e q.2.2.2),(ce,Q1e q.2.2),G) (n:Int) (false,X) (c:Int)=some (false,X')∧Did X X' ((List.range' c d).flatMap (Q3j q v)):=by
 have hmc:=Q1t v.2 hv.inn
 have hm:=Ql h.tr
 have hel:=Q4l q.2.2 h.tr
 induction d with
 |zero=>
  intro c X b hc hX hB hb
  exact⟨X,by rw[F7eE,gF (by omega)],Did.refl X⟩
 |succ d ih=>
  intro c X b hc hX hB hb
  obtain⟨l1,l2,l3,l4⟩:=Q7f h hv hf (c:Int) (Q5l hg (c:Int) (by omega))
  obtain⟨sb,e1⟩:=Qf5 hv v.1 (c:Int)
  have e1':F6j q.1 v (c:Int)=some (sb,Q12 q.1 v.2 (c:Int)):=e1
  have hsl:=Q1u hv (c:Int)
  have hsi:=Q5y hv (c:Int)
  obtain⟨X1,g1,g2⟩:=Qc9 q v ((Q3 q.2.2.2:Int),(cf,Q2e q.2.2.2),(ce,Q1e q.2.2),G) (Q3 q.2.2.2) n rfl (by omega) (by omega) (n:Int) c (by omega) (ltC q v (c:Int)) (sb,Q12 q.1 v.2 (c:Int)) hsl (fun to hto=>by rw[←hn];exact hsi to hto)
   (ce,Q1e q.2.2) (fun e he=>by obtain⟨g,l,h,a1,_,a3,_,a5⟩:=Q4e.1 he;exact⟨g,l,h,a1,a3,a5⟩) (by simp only;omega) (Q1e q.2.2).length 0 X b (by simp) hX hB (by omega)
  rw[Kf]at g2
  have hSl:(Q3j q v c).length ≤400000:=by
   have:=Qv (Q1e q.2.2) (Q4x c (ltC q v (c:Int)) (Q3 q.2.2.2) (Q12 q.1 v.2 (c:Int))) 40 (fun e _=>by have:=Q2t c (ltC q v (c:Int)) (Q3 q.2.2.2) (Q12 q.1 v.2 (c:Int)) e;omega)
   rw[Q3j]
   omega
  have g2':Did X X1 (Q3j q v c):=g2
  obtain⟨X',g3,g4⟩:=ih (c+1) X1 (b+(Q3j q v c).length) (by omega) (by rw[g2'.len];exact hX) (g2'.bnd hB) (by omega)
  refine⟨X',?_,?_⟩
  ·have g1':F5r q v ((Q3 q.2.2.2:Int),(cf,Q2e q.2.2.2),(ce,Q1e q.2.2),G) (n:Int) (false,X) (c:Int) (ltC q v (c:Int)) (sb,Q12 q.1 v.2 (c:Int)) (ce,Q1e q.2.2) ((Q1e q.2.2).length :Int) 0=_:=g1
   rw[F7eE,gT (by omega),l1,J0,e1',J0]
   simp only[g1',J0,up1 c (by omega),J1,g3]
  ·rw[K19,K17]
   exact g2'.trans g4
theorem Qb0{q:DQuestion}(h:Asks q)(v:DSight)(all_:Int)(goals:Bool×List (Bool×List Int))(n c:Nat)(hn:n≤40)(hc:c<n)(L to:Int)(hto:0≤to∧to<(n:Int))(t31 t32:Int)(t43:Bool×List Int)(t44 t45:Int)(d:Nat):∀(j:Nat) (X:List (Bool×List Int)) (b:Nat),j+d=Q3 q.2.2.2→X.length=n*Q3 q.2.2.2→Bnd X b→b+d≤1000000000→
  ∃X',F8z q v all_ (Q3 q.2.2.2:Int) (false,X) goals (c:Int) L to t31 t32 t43 t44 t45 (Q3 q.2.2.2:Int) (j:Int)=some (false,X')∧Did X X' ((List.range' j d).map fun j:Nat=>(c*Q3 q.2.2.2+gssF q.2.2 L (j:Int),to*(Q3 q.2.2.2:Int)+(j:Int))):=by
 have hlim:=J5
 have hm:=Ql h.tr
 induction d with
 |zero=>
  intro j X b hj hX hB hb
  exact⟨X,by rw[F8zE,gF (by omega)],Did.refl X⟩
 |succ d ih=>
  intro j X b hj hX hB hb
  obtain⟨e1,_,e3⟩:=Q30 q.2.2 h.tr L (j:Int) false
  have hidx:=Q58 (m:=Q3 q.2.2.2) hc e3 hn (by omega)
  have hval:=Q7r (m:=Q3 q.2.2.2) (g:=j) hto (by omega) hn (by omega)
  have hk:c*Q3 q.2.2.2+gssF q.2.2 L (j:Int)<X.length:=by rw[hX];exact Qce hc e3
  have hb1:(X.getD (c*Q3 q.2.2.2+gssF q.2.2 L (j:Int)) (true,[])).2.length ≤b:=hB _ hk
  have hput:=Did.put hk ((X.getD (c*Q3 q.2.2.2+gssF q.2.2 L (j:Int)) (true,[])).1 &&false) (to*(Q3 q.2.2.2:Int)+(j:Int))
  obtain⟨X',g1,g2⟩:=ih (j+1) _ (b+1) (by omega) (by rw[hput.len];exact hX) (hput.bnd hB) (by omega)
  refine⟨X',?_,?_⟩
  ·rw[F8zE]
   simp only[gT (show(j:Int)<(Q3 q.2.2.2:Int) by omega),e1,J0,hidx,hval,K5,gT (show(0:Int)≤((c*Q3 q.2.2.2+gssF q.2.2 L (j:Int):Nat):Int) by omega),gT (show((c*Q3 q.2.2.2+gssF q.2.2 L (j:Int):Nat):Int)<(X.length:Int) by omega),beq_self_eq_true,cond_true,up1 j (by omega),J1]
   rw[gT (by simp only[Kp,K1q];omega)]
   exact g1
  ·rw[K19,K14]
   exact hput.trans g2
noncomputable def toS(q:DQuestion)(L:Int)(c:Nat)(to:Int):List (Nat×Int):=(List.range (Q3 q.2.2.2)).map fun j:Nat=>(c*Q3 q.2.2.2+gssF q.2.2 L (j:Int),to*(Q3 q.2.2.2:Int)+(j:Int))
noncomputable def Q3c(q:DQuestion)(v:DSight)(c:Nat):List (Nat×Int):=(Q12 q.1 v.2 (c:Int)).flatMap (toS q (ltC q v (c:Int)) c)
theorem Q4g(q:DQuestion)(L:Int)(c:Nat)(to:Int):(toS q L c to).length =Q3 q.2.2.2:=by simp[toS]
theorem Qaz{q:DQuestion}(h:Asks q)(v:DSight)(all_:Int)(goals:Bool×List (Bool×List Int))(n c:Nat)(hn:n≤40)(hc:c<n)(L:Int)(t31 t32:Int)(after:Bool×List Int)(hal:after.2.length≤40)(hin:∀to∈after.2,0≤to∧to<(n:Int))(d:Nat):∀(i:Nat) (X:List (Bool×List Int)) (b:Nat),i+d=after.2.length→X.length=n*Q3 q.2.2.2→Bnd X b→b+40*d≤900000000→
  ∃X',F86 q v all_ (Q3 q.2.2.2:Int) (false,X) goals (c:Int) L t31 t32 after (after.2.length:Int) (i:Int)=some (false,X')∧Did X X' ((after.2.drop i).flatMap (toS q L c)):=by
 have hm:=Ql h.tr
 induction d with
 |zero=>
  intro i X b hi hX hB hb
  refine⟨X,by rw[F86E,gF (by omega)],?_⟩
  rw[K8 (by omega)]
  exact Did.refl X
 |succ d ih=>
  intro i X b hi hX hB hb
  have hlt:i<after.2.length:=by omega
  obtain⟨X1,g1,g2⟩:=Qb0 h v all_ goals n c hn hc L (after.2[i]) (hin _ (K3 hlt)) t31 t32 after (after.2.length:Int) (i:Int) (Q3 q.2.2.2) 0 X b (by omega) hX hB (by omega)
  have g2':Did X X1 (toS q L c after.2[i]):=by rw[toS,K1c];exact g2
  have hl:=Q4g q L c after.2[i]
  obtain⟨X',g3,g4⟩:=ih (i+1) X1 (b+(toS q L c after.2[i]).length) (by omega) (by rw[g2'.len];exact hX) (g2'.bnd hB) (by omega)
  refine⟨X',?_,?_⟩
  ·have g1':F8z q v all_ (Q3 q.2.2.2:Int) (false,X) goals (c:Int) L (after.2[i]) t31 t32 after (after.2.length:Int) (i:Int) (Q3 q.2.2.2:Int) 0=_:=g1
   rw[F86E,gT (by omega),gT (by omega),gT (by omega),J2 after.2 _ i hlt,up1 i (by omega)]
   simp only[g1',J0,J1,g3]
  ·rw[K2 hlt,K17]
   exact g2'.trans g4
theorem Qay{q:DQuestion}(h:Asks q){v:DSight}(hv:Sees q.1 v.2)(hg:Qn q.1 v.2=true)(hf:FitQ q v.2)(n:Nat)(hn:Q23 v.2=n)(goals:Bool×List (Bool×List Int))(d:Nat):∀(c:Nat) (X:List (Bool×List Int)) (b:Nat),c+d=n→X.length=n*Q3 q.2.2.2→Bnd X b→b+2000*d≤800000000→
  ∃X',F7k q v (n:Int) (Q3 q.2.2.2:Int) (false,X) goals (n:Int) (c:Int)=some (false,X')∧Did X X' ((List.range' c d).flatMap (Q3c q v)):=by
 have hmc:=Q1t v.2 hv.inn
 have hm:=Ql h.tr
 induction d with
 |zero=>
  intro c X b hc hX hB hb
  exact⟨X,by rw[F7kE,gF (by omega)],Did.refl X⟩
 |succ d ih=>
  intro c X b hc hX hB hb
  obtain⟨l1,l2,l3,l4⟩:=Q7f h hv hf (c:Int) (Q5l hg (c:Int) (by omega))
  have e1:=Qb3 hv v.1 (c:Int)
  have e1':F3s q.1 v (c:Int)=some (false,Q12 q.1 v.2 (c:Int)):=e1
  have hsl:=Q1u hv (c:Int)
  have hsi:=Q5y hv (c:Int)
  obtain⟨X1,g1,g2⟩:=Qaz h v (n:Int) goals n c (by omega) (by omega) (ltC q v (c:Int)) (n:Int) (c:Int) (false,Q12 q.1 v.2 (c:Int)) hsl (fun to hto=>by rw[←hn];exact hsi to hto) (Q12 q.1 v.2 (c:Int)).length 0 X b (by simp) hX hB (by omega)
  rw[Kf]at g2
  have g2':Did X X1 (Q3c q v c):=g2
  have hSl:(Q3c q v c).length ≤2000:=by
   have:=Qv (Q12 q.1 v.2 (c:Int)) (toS q (ltC q v (c:Int)) c) 32 (fun to _=>by rw[Q4g];omega)
   rw[Q3c]
   omega
  obtain⟨X',g3,g4⟩:=ih (c+1) X1 (b+(Q3c q v c).length) (by omega) (by rw[g2'.len];exact hX) (g2'.bnd hB) (by omega)
  refine⟨X',?_,?_⟩
  ·have g1':F86 q v (n:Int) (Q3 q.2.2.2:Int) (false,X) goals (c:Int) (ltC q v (c:Int)) (n:Int) (c:Int) (false,Q12 q.1 v.2 (c:Int)) ((Q12 q.1 v.2 (c:Int)).length :Int) 0=_:=g1
   rw[F7kE,gT (by omega),l2,J0,e1',J0]
   simp only[g1',J0,up1 c (by omega),J1,g3]
  ·rw[K19,K17]
   exact g2'.trans g4
def Qt(A B:List Int)(m:Int):List Int:=A.flatMap fun i=>B.map fun x=>i*m+x
theorem Qe5{to x:Int}{m n:Nat}(h0:0≤to∧to<(n:Int))(hx:0≤x∧x<(m:Int))(hn:n≤40)(hm:m≤40):IntKind.i64.wrap (IntKind.i64.wrap (to*(m:Int))+x)=to*m+x:=by
 obtain⟨g,rfl⟩:=Ke hx.1
 exact Q7r h0 (by omega) hn hm
theorem Qao{to:Int}{m n:Nat}(h0:0≤to∧to<(n:Int))(hn:n≤40)(hm:m≤40):0≤to*(m:Int)∧to*(m:Int)≤1600:=by
 obtain⟨t,rfl⟩:=Ke h0.1
 have h1:t*m≤40*40:=Nat.mul_le_mul (by omega) hm
 have e:(t:Int)*(m:Int)=((t*m:Nat):Int):=(Int.natCast_mul t m).symm
 rw[e]
 omega
theorem Q9m(B:Bool×List Int)(m n:Nat)(hm:m≤40)(hn:n≤40)(hBl:B.2.length≤1000)(hB:∀x∈B.2,0≤x∧x<(m:Int))(i:Int)(hi:0≤i∧i<(n:Int))(t12:Bool×List Int)(t13 t14:Int)(d:Nat):∀(j:Nat) (b:Bool) (o:List Int),j+d=B.2.length→o.length+d≤100000→
  ∃c,F9j B (m:Int) (b,o) i t12 t13 t14 B (B.2.length:Int) (j:Int)=some (c,o++(B.2.drop j).map fun x=>i*(m:Int)+x):=by
 have hlim:=J5
 induction d with
 |zero=>
  intro j b o hj ho
  exact⟨b,by rw[F9jE,gF (by omega),K8 (by omega)];simp⟩
 |succ d ih=>
  intro j b o hj ho
  have hlt:j<B.2.length:=by omega
  obtain⟨c,g⟩:=ih (j+1) (b&&false) (o++[i*(m:Int)+B.2[j]]) (by omega) (by simp;omega)
  refine⟨c,?_⟩
  rw[F9jE,gT (by omega),gT (by omega),gT (by omega),J2 B.2 _ j hlt,Qe5 hi (hB _ (K3 hlt)) hn hm,gT (by simp only[Kp,K1q];omega),up1 j (by omega),J1,g,K2 hlt,K14,Kj,K23]
theorem Q9l(B:Bool×List Int)(m n:Nat)(hm:m≤40)(hn:n≤40)(hBl:B.2.length≤40)(hB:∀x∈B.2,0≤x∧x<(m:Int))(A:Bool×List Int)(hAl:A.2.length≤1000)(hA:∀x∈A.2,0≤x∧x<(n:Int))(d:Nat):∀(j:Nat) (b:Bool) (o:List Int),j+d=A.2.length→o.length+40*d≤50000→
  ∃c,Fa2 B (m:Int) (b,o) A (A.2.length:Int) (j:Int)=some (c,o++Qt (A.2.drop j) B.2 (m:Int)):=by
 induction d with
 |zero=>
  intro j b o hj ho
  exact⟨b,by rw[Fa2E,gF (by omega),K8 (by omega)];simp[Qt]⟩
 |succ d ih=>
  intro j b o hj ho
  have hlt:j<A.2.length:=by omega
  obtain⟨c1,e1⟩:=Q9m B m n hm hn (by omega) hB (A.2[j]) (hA _ (K3 hlt)) A (A.2.length:Int) (j:Int) B.2.length 0 b o (by omega) (by omega)
  rw[Kf]at e1
  obtain⟨c,g⟩:=ih (j+1) c1 (o++B.2.map fun x=>A.2[j]*(m:Int)+x) (by omega) (by simp;omega)
  refine⟨c,?_⟩
  have e1':F9j B (m:Int) (b,o) (A.2[j]) A (A.2.length:Int) (j:Int) B (B.2.length:Int) 0=_:=e1
  rw[Fa2E,gT (by omega),gT (by omega),gT (by omega),J2 A.2 _ j hlt,up1 j (by omega)]
  simp only[e1',J0,J1,g]
  rw[K2 hlt,Qt,Qt,K17,Kj]
theorem Qag(B:Bool×List Int)(m n:Nat)(hm:m≤40)(hn:n≤40)(hBl:B.2.length≤40)(hB:∀x∈B.2,0≤x∧x<(m:Int))(A:Bool×List Int)(hAl:A.2.length≤1000)(hA:∀x∈A.2,0≤x∧x<(n:Int)):∃c,F14 A B (m:Int)=some (c,Qt A.2 B.2 (m:Int)):=by
 obtain⟨c,e⟩:=Q9l B m n hm hn hBl hB A hAl hA A.2.length 0 true [] (by omega) (by simp;omega)
 have e':Fa2 B (m:Int) (true,[]) A (A.2.length:Int) 0=_:=e
 exact⟨c,by rw[F14E,e',J0,Kf,Kt]⟩
theorem Qhn(n:Nat)(hn:n≤1000):∃c,F3f (n:Int)=some (c,(List.range n).map Int.ofNat):=by
 have hlim:=J5
 obtain⟨c,e⟩:=Q41 n (fun _=>true) (fun o j=>F7p (n:Int) o j) (fun j b o hj ho=>by
  rw[F7pE,gT (by omega),gT (by simp only[Kp,K1q];omega),up1 j (by omega),J1,cond_true]) (fun b o=>by
  rw[F7pE,gF (by omega)]) true
 have e':F7p (n:Int) (true,[]) 0=_:=e
 refine⟨c,?_⟩
 rw[F3fE,e',J0,upTo,List.filter_eq_self.2 (fun _ _=>rfl)]
theorem Qfb(B:Bool×List Int)(hBl:B.2.length≤1000)(y:Int)(hy:0≤y∧y≤1600)(hB:∀x∈B.2,0≤x∧x<1000)(d:Nat):∀(j:Nat) (b:Bool) (o:List Int),j+d=B.2.length→o.length≤j→
  ∃c,F8y y (b,o) B (B.2.length:Int) (j:Int)=some (c,o++(B.2.drop j).map fun x=>y+x):=by
 have hlim:=J5
 induction d with
 |zero=>
  intro j b o hj ho
  exact⟨b,by rw[F8yE,gF (by omega),K8 (by omega)];simp⟩
 |succ d ih=>
  intro j b o hj ho
  have hlt:j<B.2.length:=by omega
  have hx:=hB _ (K3 hlt)
  obtain⟨c,g⟩:=ih (j+1) (b&&false) (o++[y+B.2[j]]) (by omega) (by simp;omega)
  refine⟨c,?_⟩
  rw[F8yE,gT (by omega),gT (by omega),gT (by omega),J2 B.2 _ j hlt,wr (by omega),gT (by simp only[Kp,K1q];omega),up1 j (by omega),J1,Int.add_comm _ y,g,K2 hlt,K14,Kj,K23]
theorem Qg5(B:Bool×List Int)(hBl:B.2.length≤1000)(y:Int)(hy:0≤y∧y≤1600)(hB:∀x∈B.2,0≤x∧x<1000):∃c,F2s B y=some (c,B.2.map fun x=>y+x):=by
 obtain⟨c,e⟩:=Qfb B hBl y hy hB B.2.length 0 false [] (by omega) (by simp)
 have e':F8y y (false,[]) B (B.2.length:Int) 0=_:=e
 exact⟨c,by rw[F2sE,e',J0,Kf,Kt]⟩
theorem Qas(f:List DSaid):∀x∈Q2e f,0≤x∧x<(Q3 f:Int):=fun x hx=>(Qan.1 hx).1
theorem Qax{q:DQuestion}(h:Asks q)(n:Nat)(hn:n≤40)(A:Bool×List Int)(hAl:A.2.length≤1000)(hA:∀x∈A.2,0≤x∧x<(n:Int))(d:Nat):∀(j:Nat) (b:Bool) (o:List Int),j+d=A.2.length→o.length+40*d≤50000→
  ∃c,(b=false→c=false)∧F8n q (b,o) A (A.2.length:Int) (j:Int)=some (c,o++Qt (A.2.drop j) (Q2e q.2.2.2) (Q3 q.2.2.2:Int)):=by
 have hlim:=J5
 have hm:=Ql h.tr
 have hfl:(Q2e q.2.2.2).length ≤Q3 q.2.2.2:=Q3l _ _
 obtain⟨rc,re⟩:=Qhy q.2.2 h.tr
 induction d with
 |zero=>
  intro j b o hj ho
  exact⟨b,fun h=>h,by rw[F8nE,gF (by omega),K8 (by omega)];simp[Qt]⟩
 |succ d ih=>
  intro j b o hj ho
  have hlt:j<A.2.length:=by omega
  have hy:=Qao (m:=Q3 q.2.2.2) (hA _ (K3 hlt)) hn (by omega)
  obtain⟨c1,e1⟩:=Qg5 (rc,Q2e q.2.2.2) (by simp only;omega) (A.2[j]*(Q3 q.2.2.2:Int)) hy (fun x hx=>by have:=Qas _ x hx;omega)
  obtain⟨c,hc,g⟩:=ih (j+1) (b&&((Q2e q.2.2.2).map fun x=>A.2[j]*(Q3 q.2.2.2:Int)+x).isEmpty) (o++(Q2e q.2.2.2).map fun x=>A.2[j]*(Q3 q.2.2.2:Int)+x) (by omega) (by simp;omega)
  refine⟨c,fun hb=>hc (by rw[hb];rfl),?_⟩
  rw[F8nE,gT (by omega),gT (by omega),gT (by omega),J2 A.2 _ j hlt,re,J0,Q5g q.2.2 h.tr,J0,wr (n:=A.2[j]*(Q3 q.2.2.2:Int)) (by omega),up1 j (by omega)]
  simp only[e1,J0,J1]
  rw[gT (by simp only[Ki];omega),g,K2 hlt,Qt,Qt,K17,Kj]
theorem Q6x{q:DQuestion}(h:Asks q)(n:Nat)(hn:n≤40)(A:Bool×List Int)(hAl:A.2.length≤1000)(hA:∀x∈A.2,0≤x∧x<(n:Int)):F35 q A=some (false,Qt A.2 (Q2e q.2.2.2) (Q3 q.2.2.2:Int)):=by
 obtain⟨c,hc,e⟩:=Qax h n hn A hAl hA A.2.length 0 false [] (by omega) (by simp;omega)
 have e':F8n q (false,[]) A (A.2.length:Int) 0=_:=e
 rw[F35E,e',J0,Kf,Kt,hc rfl]
theorem Q3t(f:List DSaid):∀g∈Q38 f,g.length≤Q3 f∧∀x∈g,0≤x∧x<(Q3 f:Int):=by
 intro g hg
 obtain⟨i,_,h⟩:=List.mem_flatMap.1 hg
 unfold Q4p at h
 split at h
 ·rw[Km]at h
  subst h
  exact⟨Q3l _ _,fun x hx=>(Qan.1 hx).1⟩
 ·cases h
theorem Qcc(q:DQuestion)(v:DSight)(a:DAuto)(n:Nat)(hn:n≤40)(hg:Qr q.2.2.2=true)(ha:a.1=(Q3 q.2.2.2:Int))(next:Bool×List (Bool×List Int))(c2:Bool)(X:List (Bool×List Int))(hXl:X.length≤1000)(hX:∀x∈X,x.2∈Q38 q.2.2.2)(d:Nat):∀(j:Nat) (b:Bool) (o:List (Bool×List Int)),j+d=X.length→o.length≤j→
  ∃c Y,F87 q v a (n:Int) next (b,o) (c2,X) (X.length:Int) (j:Int)=some (c,o++Y)∧Y.map Prod.snd=(X.drop j).map fun g=>Qt ((List.range n).map Int.ofNat) g.2 (Q3 q.2.2.2:Int):=by
 have hlim:=J5
 have hm:=Ql hg
 induction d with
 |zero=>
  intro j b o hj ho
  exact⟨b,[],by rw[F87E,gF (by omega)];simp,by rw[K8 (by omega)];rfl⟩
 |succ d ih=>
  intro j b o hj ho
  have hlt:j<X.length:=by omega
  obtain⟨g1,g2⟩:=Q3t _ _ (hX _ (K3 hlt))
  obtain⟨c3,e3⟩:=Qhn n (by omega)
  obtain⟨c4,e4⟩:=Qag X[j] (Q3 q.2.2.2) n (by omega) hn (by omega) g2 (c3,(List.range n).map Int.ofNat) (by simp;omega) (fun x hx=>by
   obtain⟨y,hy,rfl⟩:=Kv.1 hx
   have:=K1y.1 hy
   exact⟨Int.natCast_nonneg _,by simp;omega⟩)
  obtain⟨c,Y,h1,h2⟩:=ih (j+1) (b&&false) (o++[(c4,Qt ((List.range n).map Int.ofNat) X[j].2 (Q3 q.2.2.2:Int))]) (by omega) (by simp;omega)
  refine⟨c,(c4,Qt ((List.range n).map Int.ofNat) X[j].2 (Q3 q.2.2.2:Int))::Y,?_,?_⟩
  ·rw[F87E,gT (by omega),gT (by omega),gT (by simp only;omega),J2 X _ j hlt,e3,J0,ha,up1 j (by omega)]
   simp only[e4,J0,J1]
   rw[gT (by simp only[Kp,K1q];omega),h1]
   simp
  ·rw[K14,h2,K2 hlt,K14]
theorem Qb2(q:DQuestion)(v:DSight)(hg:Qr q.2.2.2=true)(n:Nat)(hn:n≤40)(next goals:Bool×List (Bool×List Int))(goal:Bool×List Int)(hgl:goal.2.length≤Q3 q.2.2.2)(hgi:∀x∈goal.2,0≤x∧x<(Q3 q.2.2.2:Int))(t81:Bool×List (Bool×List Int))(t82 t83:Int)(d:Nat):∀(c:Nat) (b:Bool) (o:List Int),c+d=n→o.length+40*d≤50000→
  ∃b',(b=false→b'=false)∧F8x q v (n:Int) (Q3 q.2.2.2:Int) next goals goal (b,o) t81 t82 t83 (n:Int) (c:Int)=some (b',o++Qt ((List.range' c d).map Int.ofNat) goal.2 (Q3 q.2.2.2:Int)):=by
 have hlim:=J5
 have hm:=Ql hg
 induction d with
 |zero=>
  intro c b o hc ho
  exact⟨b,fun h=>h,by rw[F8xE,gF (by omega)];simp[Qt]⟩
 |succ d ih=>
  intro c b o hc ho
  have hy:=Qao (to:=(c:Int)) (m:=Q3 q.2.2.2) (n:=n) ⟨by omega,by omega⟩ hn (by omega)
  obtain⟨c1,e1⟩:=Qg5 goal (by omega) ((c:Int)*(Q3 q.2.2.2:Int)) hy (fun x hx=>by have:=hgi x hx;omega)
  obtain⟨b',hb',g⟩:=ih (c+1) (b&&(goal.2.map fun x=>(c:Int)*(Q3 q.2.2.2:Int)+x).isEmpty) (o++goal.2.map fun x=>(c:Int)*(Q3 q.2.2.2:Int)+x) (by omega) (by simp;omega)
  refine⟨b',fun hb=>hb' (by rw[hb];rfl),?_⟩
  rw[F8xE,gT (by omega),wr (n:=(c:Int)*(Q3 q.2.2.2:Int)) (by omega),e1,J0,up1 c (by omega)]
  rw[gT (by simp only[Ki];omega),J1,g,K19,K14,Qt,Qt,K17,Kj]
  rfl
theorem Qb1(q:DQuestion)(v:DSight)(hg:Qr q.2.2.2=true)(n:Nat)(hn:n≤40)(next:Bool×List (Bool×List Int))(c2:Bool)(X:List (Bool×List Int))(hXl:X.length≤1000)(hX:∀x∈X,x.2∈Q38 q.2.2.2)(d:Nat):∀(j:Nat) (b:Bool) (o:List (Bool×List Int)),j+d=X.length→o.length≤j→
  ∃c Y,F9i q v (n:Int) (Q3 q.2.2.2:Int) next (b,o) (c2,X) (X.length:Int) (j:Int)=some (c,o++Y)∧(Y.map Prod.snd=(X.drop j).map fun g=>Qt ((List.range n).map Int.ofNat) g.2 (Q3 q.2.2.2:Int))∧∀y∈Y,y.1=false:=by
 have hlim:=J5
 have hm:=Ql hg
 induction d with
 |zero=>
  intro j b o hj ho
  exact⟨b,[],by rw[F9iE,gF (by omega)];simp,by rw[K8 (by omega)];rfl,by simp⟩
 |succ d ih=>
  intro j b o hj ho
  have hlt:j<X.length:=by omega
  obtain⟨g1,g2⟩:=Q3t _ _ (hX _ (K3 hlt))
  obtain⟨c4,hc4,e4⟩:=Qb2 q v hg n hn next (b,o) X[j] g1 g2 (c2,X) (X.length:Int) (j:Int) n 0 false [] (by omega) (by simp;omega)
  rw[←K1c,Kt]at e4
  obtain⟨c,Y,h1,h2,h3⟩:=ih (j+1) (b&&false) (o++[(c4,Qt ((List.range n).map Int.ofNat) X[j].2 (Q3 q.2.2.2:Int))]) (by omega) (by simp;omega)
  refine⟨c,(c4,Qt ((List.range n).map Int.ofNat) X[j].2 (Q3 q.2.2.2:Int))::Y,?_,?_,fun y hy=> ?_⟩
  ·have e4':F8x q v (n:Int) (Q3 q.2.2.2:Int) next (b,o) X[j] (false,[]) (c2,X) (X.length:Int) (j:Int) (n:Int) 0=_:=e4
   rw[F9iE,gT (by omega),gT (by omega),gT (by simp only;omega),J2 X _ j hlt,up1 j (by omega)]
   simp only[e4',J0,J1]
   rw[gT (by simp only[Kp,K1q];omega),h1]
   simp
  ·rw[K14,h2,K2 hlt,K14]
  ·rcases Kd.1 hy with rfl|hy
   ·exact hc4 rfl
   ·exact h3 y hy
theorem Q8n{A B:List Int}{n m:Nat}(hA:∀x∈A,0≤x∧x<(n:Int))(hB:∀y∈B,0≤y∧y<(m:Int)):∀z∈Qt A B (m:Int),0≤z∧z<((n*m:Nat):Int):=by
 intro z hz
 obtain⟨x,hx,hz⟩:=List.mem_flatMap.1 hz
 obtain⟨y,hy,rfl⟩:=Kv.1 hz
 have h1:=hA x hx
 have h2:=hB y hy
 have h3:x*(m:Int)≤((n:Int)-1)*(m:Int):=Int.mul_le_mul_of_nonneg_right (by omega) (by omega)
 have h4:0≤x*(m:Int):=Int.mul_nonneg h1.1 (by omega)
 have h5:((n:Int)-1)*(m:Int)=(n:Int)*(m:Int)-(m:Int):=by rw[Int.sub_mul,Int.one_mul]
 rw[Int.natCast_mul]
 omega
theorem Qbk(B:Bool×List Int)(hBl:B.2.length≤900000)(d:Nat):∀(j:Nat) (b:Bool) (o:List Int),j+d=B.2.length→o.length≤j→
  ∃c,F7r (b,o) B (B.2.length:Int) (j:Int)=some (c,(B.2.drop j).foldl (fun o n=>insL n o) o):=by
 induction d with
 |zero=>
  intro j b o hj ho
  exact⟨b,by rw[F7rE,gF (by omega),K8 (by omega)];rfl⟩
 |succ d ih=>
  intro j b o hj ho
  have hlt:j<B.2.length:=by omega
  obtain⟨f1,e1⟩:=Q9q b o B.2[j] (by omega)
  have l1:=Q11 B.2[j] o
  obtain⟨c,g⟩:=ih (j+1) f1 (insL B.2[j] o) (by omega) (by omega)
  refine⟨c,?_⟩
  rw[F7rE,gT (by omega),gT (by omega),gT (by omega),J2 B.2 _ j hlt,e1,J0,up1 j (by omega),J1,g,K2 hlt,K16]
theorem Qgw(B:Bool×List Int)(hBl:B.2.length≤900000):∃c,F34 (true,[]) B=some (c,Qs B.2):=by
 have hlim:=J5
 obtain⟨c,e⟩:=Qbk B hBl B.2.length 0 false [] (by omega) (by simp)
 have e':F7r (false,[]) B (B.2.length:Int) 0=_:=e
 refine⟨c,?_⟩
 rw[F34E,F4wE,gT (by simp only[K1q];omega),J0]
 simp only[K1s,e',J0,Kf]
 rfl
theorem Qcb(q:DQuestion)(v:DSight)(many:Int)(b:Bool)(d:Nat):∀(i:Nat) (X:List (Bool×List Int)),i+d=X.length→X.length≤100000→Bnd X 900000→
  ∃X',F9g q v many (b,X) (X.length:Int) (i:Int)=some (b,X')∧X'.length=X.length∧∀k:Nat,k<X.length→Q1i X' k=if k<i then Q1i X k else Qs (Q1i X k):=by
 induction d with
 |zero=>
  intro i X hi hX hB
  exact⟨X,by rw[F9gE,gF (by omega)],rfl,fun k hk=>by rw[if_pos (by omega)]⟩
 |succ d ih=>
  intro i X hi hX hB
  have hlt:i<X.length:=by omega
  have hb:(X.getD i (true,[])).2.length ≤900000:=hB i hlt
  obtain⟨c,e⟩:=Qgw (X.getD i (true,[])) hb
  have hrow:∀k:Nat,k<X.length→Q1i (X.set i (c,Qs (X.getD i (true,[])).2)) k=if k=i then Qs (Q1i X i)else Q1i X k:=by
   intro k hk
   by_cases ek:k=i
   ·subst ek
    simp[Q1i,K1,hk]
   ·rw[if_neg ek]
    simp[Q1i,K1,List.getElem?_set_ne (show i≠k by omega)]
  obtain⟨X',g1,g2,g3⟩:=ih (i+1) (X.set i (c,Qs (X.getD i (true,[])).2)) (by rw[Ko];omega) (by rw[Ko];exact hX) (fun k hk=>by
   rw[Ko]at hk
   rw[hrow k hk]
   split
   ·exact K12 (Q2w _) (hB i hlt)
   ·exact hB k hk)
  rw[Ko]at g1 g2 g3
  refine⟨X',?_,g2,fun k hk=> ?_⟩
  ·rw[F9gE]
   simp only[gT (show(i:Int)<(X.length:Int) by omega),gT (show(0:Int)≤(i:Int) by omega),Qj,e,J0,K5,up1 i (by omega),J1,g1]
  ·rw[g3 k hk,hrow k hk]
   by_cases e1:k=i
   ·subst e1
    rw[if_pos rfl,if_pos (by omega),if_neg (by omega)]
   ·rw[if_neg e1]
    by_cases e2:k<i
    ·rw[if_pos (by omega),if_pos e2]
    ·rw[if_neg (by omega),if_neg e2]
theorem Q8k{q:DQuestion}{v:DSight}{c k:Nat}{z:Int}(hl:0≤ltC q v (c:Int)∧ltC q v (c:Int)≤7):
  (k,z)∈Q3j q v c↔∃to∈Q12 q.1 v.2 (c:Int),∃h:Nat,h<Q3 q.2.2.2∧gssF q.2.2 (ltC q v (c:Int)) (h:Int)<Q3 q.2.2.2∧k=c*Q3 q.2.2.2+gssF q.2.2 (ltC q v (c:Int)) (h:Int)∧z=to*(Q3 q.2.2.2:Int)+(h:Int):=by
 rw[Q3j,List.mem_flatMap]
 constructor
 ·rintro⟨e,he,hz⟩
  obtain⟨g,l,h,a1,a2,a3,a4,rfl⟩:=Q4e.1 he
  unfold Q4x at hz
  split at hz
  ·rename_i hL
   obtain⟨to,hto,hk⟩:=Kv.1 hz
   simp only at hL
   have hk1:=(Prod.mk.inj hk).1
   have hk2:=(Prod.mk.inj hk).2
   rw[hL]at a4
   exact⟨to,hto,h,a3,by omega,by rw[←hk1,a4];rfl,by rw[←hk2]⟩
  ·cases hz
 ·rintro⟨to,hto,h,a1,a2,rfl,rfl⟩
  obtain⟨l,el⟩:=Ke hl.1
  refine⟨((gssF q.2.2 (ltC q v (c:Int)) (h:Int):Int),((l:Int),(h:Int))),Q4e.2 ⟨_,l,h,a2,by omega,a1,by rw[el],rfl⟩,?_⟩
  unfold Q4x
  rw[if_pos el.symm]
  exact Kv.2 ⟨to,hto,rfl⟩
theorem Q5n{q:DQuestion}{v:DSight}{c k:Nat}{z:Int}:
  (k,z)∈Q3c q v c↔∃to∈Q12 q.1 v.2 (c:Int),∃h:Nat,h<Q3 q.2.2.2∧k=c*Q3 q.2.2.2+gssF q.2.2 (ltC q v (c:Int)) (h:Int)∧z=to*(Q3 q.2.2.2:Int)+(h:Int):=by
 simp only[Q3c,toS,List.mem_flatMap,Kv,K1y]
 constructor
 ·rintro⟨to,hto,h,hh,e⟩
  exact⟨to,hto,h,hh,(Prod.mk.inj e).1.symm,(Prod.mk.inj e).2.symm⟩
 ·rintro⟨to,hto,h,hh,rfl,rfl⟩
  exact⟨to,hto,h,hh,rfl⟩
theorem Qg6{q:DQuestion}(h:Asks q){v:DSight}{c k:Nat}{z:Int}(hl:0≤ltC q v (c:Int)∧ltC q v (c:Int)≤7):(k,z)∈Q3j q v c↔(k,z)∈Q3c q v c:=by
 rw[Q8k hl,Q5n]
 constructor
 ·rintro⟨to,hto,j,h1,_,h3⟩
  exact⟨to,hto,j,h1,h3⟩
 ·rintro⟨to,hto,j,h1,h3⟩
  exact⟨to,hto,j,h1,(Q30 q.2.2 h.tr _ _ false).2.2,h3⟩
theorem Qcf{c g m k:Nat}(hg:g<m)(hk:k=c*m+g):c=k / m:=by
 have hm:0<m:=by omega
 rw[hk,Nat.add_comm,Nat.add_mul_div_right _ _ hm,Nat.div_eq_of_lt hg,K1k]
theorem Q5s(q:DQuestion)(L:Int)(c:Nat)(to:Int)(k:Nat):Q10 (pick (toS q L c to) k):=by
 have h:(List.range (Q3 q.2.2.2)).Pairwise (· < ·):=List.pairwise_lt_range
 rw[pick,toS]
 refine List.pairwise_map.2 (List.Pairwise.filter _ (List.pairwise_map.2 (h.imp fun hab=> ?_)))
 simp only
 omega
theorem Q87{q:DQuestion}(h:Asks q)(v:DSight)(c k:Nat):Q10 (pick (Q3c q v c) k):=by
 have hm:=Ql h.tr
 rw[Q3c,Q5r]
 refine Q7m _ (Qk _) _ (Q3 q.2.2.2:Int) (fun to _=>Q5s q _ c to k) (fun to _ y hy=> ?_) (by omega)
 rw[Q32,toS,Kv]at hy
 obtain⟨j,hj,e⟩:=hy
 have hj:=K1y.1 hj
 have e2:=(Prod.mk.inj e).2
 rw[Int.add_mul]
 omega
theorem Q8p{q:DQuestion}(h:Asks q){v:DSight}(n:Nat)(hl:∀c:Nat,c<n→0≤ltC q v (c:Int)∧ltC q v (c:Int)≤7)(k:Nat):
  Qs (pick ((List.range' 0 n).flatMap (Q3j q v)) k)=pick ((List.range' 0 n).flatMap (Q3c q v)) k:=by
 refine Q5u ?_ fun z=> ?_
 ·rw[Q5r,Q4m _ (k / Q3 q.2.2.2) (fun a ha=> ?_) n 0]
  ·split
   ·exact Q87 h v _ k
   ·exact List.Pairwise.nil
  ·refine List.eq_nil_iff_forall_not_mem.2 fun z hz=>ha ?_
   obtain⟨to,_,j,_,e,_⟩:=Q5n.1 (Q32.1 hz)
   exact Qcf (Q30 q.2.2 h.tr _ _ false).2.2 e
 ·rw[Q32,Q32,List.mem_flatMap,List.mem_flatMap]
  constructor
  ·rintro⟨c,hc,hz⟩
   have:=List.mem_range'_1.1 hc
   exact⟨c,hc,(Qg6 h (hl c (by omega))).1 hz⟩
  ·rintro⟨c,hc,hz⟩
   have:=List.mem_range'_1.1 hc
   exact⟨c,hc,(Qg6 h (hl c (by omega))).2 hz⟩
theorem Q8r(q:DQuestion)(hg:Qr q.2.2.2=true){v:DSight}(hv:Sees q.1 v.2)(c:Nat):(Q3j q v c).length ≤400000:=by
 have hel:=Q4l q.2.2 hg
 have hsl:=Q1u hv (c:Int)
 have:=Qv (Q1e q.2.2) (Q4x c (ltC q v (c:Int)) (Q3 q.2.2.2) (Q12 q.1 v.2 (c:Int))) 40 (fun e _=>by have:=Q2t c (ltC q v (c:Int)) (Q3 q.2.2.2) (Q12 q.1 v.2 (c:Int)) e;omega)
 rw[Q3j]
 omega
theorem Q5v{q:DQuestion}(h:Asks q){v:DSight}(hv:Sees q.1 v.2)(n:Nat)(hl:∀c:Nat,c<n→0≤ltC q v (c:Int)∧ltC q v (c:Int)≤7)(k:Nat):(pick ((List.range' 0 n).flatMap (Q3j q v)) k).length ≤400000:=by
 have e:(List.range' 0 n).flatMap (fun c=>pick (Q3j q v c) k)=(List.range' 0 n).flatMap (fun c=>if c=k / Q3 q.2.2.2 then pick (Q3j q v c) k else[]):=by
  rw[List.flatMap_def,List.flatMap_def]
  refine congrArg List.flatten (List.map_congr_left fun c hc=> ?_)
  split
  ·rfl
  ·rename_i ne
   have:=List.mem_range'_1.1 hc
   refine List.eq_nil_iff_forall_not_mem.2 fun z hz=>ne ?_
   obtain⟨to,_,j,_,hg,e,_⟩:=(Q8k (hl c (by omega))).1 (Q32.1 hz)
   exact Qcf hg e
 rw[Q5r,e,Q4m _ (k / Q3 q.2.2.2) (fun a ha=>if_neg ha) n 0]
 split
 ·rw[if_pos rfl]
  exact K12 (Q3h _ _) (Q8r q h.tr hv _)
 ·simp
theorem Q8o{X:List (Bool×List Int)}{k:Nat}(hk:k<(X.map Prod.snd).length):(X.map Prod.snd)[k]=Q1i X k:=by
 rw[Ki]at hk
 simp[Q1i,K1,hk]
theorem Qfl{X Y:List (Bool×List Int)}(hl:X.length=Y.length)(h:∀k:Nat,k<X.length→Q1i X k=Q1i Y k):X.map Prod.snd=Y.map Prod.snd:=
 List.ext_getElem (by simp[hl]) fun k h1 h2=>by
  rw[Q8o h1,Q8o h2]
  exact h k (by simpa using h1)
theorem Q2l(A B:List Int)(m:Int)(n:Nat)(h:B.length≤n):(Qt A B m).length ≤A.length*n:=Qv A _ n fun x _=>by rw[Ki];exact h
theorem Q5t(n k:Nat):Q1i (List.replicate n ((true,[]):Bool×List Int)) k=[]:=by
 simp only[Q1i,K1,K1z]
 split<;>rfl
theorem Qbq{X:List (Bool×List Int)}(hl:X.length≤1048576){n:Nat}(hn:n≤1048576)(hB:Bnd X n):Q6w X:=by
 refine⟨hl,fun x hx=> ?_⟩
 obtain⟨k,hk,rfl⟩:=List.mem_iff_getElem.1 hx
 have h1:=hB k hk
 have e:Q1i X k=(X[k]).2 :=by simp[Q1i,K1,hk]
 rw[e]at h1
 omega
theorem Qdp{X:List (Bool×List Int)}{L:List (List Int)}(h:X.map Prod.snd=L)(hl:L.length≤1048576)(hn:∀l∈L,l.length≤1048576):Q6w X:=by
 refine⟨by rw[←h,Ki]at hl;exact hl,fun x hx=>hn _ (by rw[←h];exact K1t hx)⟩
structure BesideOk (q:DQuestion) (v:DSight) (N':List (Bool×List Int)) (A:List Int) (G':List (Bool×List Int)):Prop where
 wide:∃n:Nat,(n:Int)=Q23 v.2∧1≤n∧N'.length=n*Q3 q.2.2.2
 one:1≤N'.length
 most:N'.length≤1600
 rows:∀r∈N',r.2.length≤1600∧∀w∈r.2,0≤w∧w<(N'.length:Int)
 firstl:A.length≤2000
 first:∀w∈A,0≤w∧w<(N'.length:Int)
 goals:∀r∈G',r.1=false∧r.2.length≤2000∧∀w∈r.2,0≤w∧w<(N'.length:Int)
 goalsl:G'.length≤60
theorem Q95{q:DQuestion}(h:Asks q){v:DSight}(hv:Sees q.1 v.2)(hg:Qn q.1 v.2=true)(hf:FitQ q v.2):
  ∃f1 f2 f3 g1 g3 N N' A G G',F6 q v=some ((f1,N),(f2,A),(f3,G))∧F7 q v=some ((g1,N'),(false,A),(g3,G'))∧N'.map Prod.snd=N.map Prod.snd∧G'.map Prod.snd=G.map Prod.snd∧Q6w N'∧Q6w G'∧A.length≤1048576∧BesideOk q v N' A G':=by
 have hlim:=J5
 have hm:=Ql h.tr
 have hmv:=hv.manyV
 have hmc:=Q1t v.2 hv.inn
 obtain⟨n,hn⟩:=Ke hmc.1
 have hfl:=(Qb (Qy h.tr).1).2.1
 obtain⟨c1,c2,c3,X,a1,a2,a3⟩:=Qgr q.2.2 h.tr
 obtain⟨d3,Z,b1,b2,b3⟩:=Qgm q.2.2 h.tr
 have many1:F1v v=some (n:Int):=by rw[Q9p v (by omega) hv.inn,hn]
 have many2:Fv v=some (n:Int):=by rw[Q2v v (by omega) (by omega) hv.inn,hn]
 have hnm:n*Q3 q.2.2.2≤40*40:=Nat.mul_le_mul (by omega) (by omega)
 have ew:IntKind.i64.wrap ((n:Int)*(Q3 q.2.2.2:Int))=((n*Q3 q.2.2.2:Nat):Int):=by
  rw[←Int.natCast_mul,wr (by omega)]
 have hB0:Bnd (List.replicate (n*Q3 q.2.2.2) ((true,[]):Bool×List Int)) 0:=fun k _=>by rw[Q5t];exact Ky _
 have hl:∀c:Nat,c<n→0≤ltC q v (c:Int)∧ltC q v (c:Int)≤7:=fun c hc=>(Q7f h hv hf (c:Int) (Q5l hg (c:Int) (by omega))).2.2
 obtain⟨X1,s1,s2⟩:=Qc8 h hv hg hf n hn c1 c2 (c3,X) n 0 (List.replicate (n*Q3 q.2.2.2) ((true,[]):Bool×List Int)) 0 (by omega) (by simp) hB0 (by omega)
 have s1':F7e q v ((Q3 q.2.2.2:Int),(c1,Q2e q.2.2.2),(c2,Q1e q.2.2),(c3,X)) (n:Int) (false,List.replicate (n*Q3 q.2.2.2) ((true,[]):Bool×List Int)) 0=_:=s1
 have l1:X1.length=n*Q3 q.2.2.2:=by rw[s2.len,K1n]
 have row1:∀k:Nat,k<n*Q3 q.2.2.2→Q1i X1 k=pick ((List.range' 0 n).flatMap (Q3j q v)) k:=fun k hk=>by
  rw[s2.row k (by rw[K1n];exact hk),Q5t,Kt]
 obtain⟨X2,u1,u2,u3⟩:=Qcb q v (n:Int) false X1.length 0 X1 (by omega) (by omega) (fun k hk=>by rw[row1 k (by omega)];have:=Q5v h hv n hl k;omega)
 have u1':F9g q v (n:Int) (false,X1) (X1.length:Int) 0=_:=u1
 obtain⟨f3,G,w1,w2⟩:=Qcc q v ((Q3 q.2.2.2:Int),(c1,Q2e q.2.2.2),(c2,Q1e q.2.2),(c3,X)) n (by omega) h.tr rfl (false,X2) c3 X (by omega) (fun x hx=>by rw[←a2];exact K1t hx) X.length 0 true [] (by omega) (by simp)
 have w1':F87 q v ((Q3 q.2.2.2:Int),(c1,Q2e q.2.2.2),(c2,Q1e q.2.2),(c3,X)) (n:Int) (false,X2) (true,[]) (c3,X) (X.length:Int) 0=_:=w1
 obtain⟨Y1,p1,p2⟩:=Qay h hv hg hf n hn (false,[]) n 0 (List.replicate (n*Q3 q.2.2.2) ((true,[]):Bool×List Int)) 0 (by omega) (by simp) hB0 (by omega)
 have p1':F7k q v (n:Int) (Q3 q.2.2.2:Int) (false,List.replicate (n*Q3 q.2.2.2) ((true,[]):Bool×List Int)) (false,[]) (n:Int) 0=_:=p1
 have l2:Y1.length=n*Q3 q.2.2.2:=by rw[p2.len,K1n]
 have row2:∀k:Nat,k<n*Q3 q.2.2.2→Q1i Y1 k=pick ((List.range' 0 n).flatMap (Q3c q v)) k:=fun k hk=>by
  rw[p2.row k (by rw[K1n];exact hk),Q5t,Kt]
 obtain⟨g3,G',r1,r2,r5⟩:=Qb1 q v h.tr n (by omega) (false,Y1) d3 Z (by omega) (fun x hx=>by rw[←b2];exact K1t hx) Z.length 0 false [] (by omega) (by simp)
 have r1':F9i q v (n:Int) (Q3 q.2.2.2:Int) (false,Y1) (false,[]) (d3,Z) (Z.length:Int) 0=_:=r1
 have hstl:=Q7o q.1 q.1.2.2.1.2 0 (Qi q.1)
 have hsti:∀x∈Qz q.1 q.1.2.2.1.2 0 (Qi q.1),0≤x∧x<(Qi q.1:Int):=fun x hx=>(Qbm.1 hx).1
 have hms:=Q25 h.ok.sml
 obtain⟨t1,e1⟩:=Qgv h.ok.sml q.1.2.2.1 h.ok.wf.1 hv.start
 obtain⟨t2,e2⟩:=Qh8 h.ok.sml q.1.2.2.1 h.ok.wf.1 hv.start
 obtain⟨t3,e3⟩:=hv.clsS (t1,Qz q.1 q.1.2.2.1.2 0 (Qi q.1)) (by simp only;omega) hsti v.1
 have e3':F2o v (t1,Qz q.1 q.1.2.2.1.2 0 (Qi q.1))=some (t3,Qs (clsL v.2 (Qz q.1 q.1.2.2.1.2 0 (Qi q.1)))):=e3
 have e4:=hv.clsP (t2,Qz q.1 q.1.2.2.1.2 0 (Qi q.1)) (by simp only;omega) hsti v.1
 have e4':F29 v (t2,Qz q.1 q.1.2.2.1.2 0 (Qi q.1))=some (false,Qs (clsL v.2 (Qz q.1 q.1.2.2.1.2 0 (Qi q.1)))):=e4
 have hsi:∀x∈Qs (clsL v.2 (Qz q.1 q.1.2.2.1.2 0 (Qi q.1))),0≤x∧x<(n:Int):=fun x hx=>by
  rw[←hn]
  exact Q72 v.2 (fun y hy=>(hv.inn y hy).1) _ (fun y hy=>by rw[hv.len];exact hsti y hy) x ((Qp _ x).1 hx)
 have hsl:=Q1d (Qk (clsL v.2 (Qz q.1 q.1.2.2.1.2 0 (Qi q.1)))) hsi
 have hfi:=Qas q.2.2.2
 have hfll:(Q2e q.2.2.2).length ≤Q3 q.2.2.2:=Q3l _ _
 obtain⟨f2,e5⟩:=Qag (c1,Q2e q.2.2.2) (Q3 q.2.2.2) n (by omega) (by omega) (by simp only;omega) hfi (t3,Qs (clsL v.2 (Qz q.1 q.1.2.2.1.2 0 (Qi q.1)))) (by simp only;omega) hsi
 have e6:=Q6x h n (by omega) (false,Qs (clsL v.2 (Qz q.1 q.1.2.2.1.2 0 (Qi q.1)))) (by simp only;omega) hsi
 have hAl:=Q2l (Qs (clsL v.2 (Qz q.1 q.1.2.2.1.2 0 (Qi q.1)))) (Q2e q.2.2.2) (Q3 q.2.2.2:Int) 40 (by omega)
 refine⟨false,f2,f3,false,g3,X2,Y1,Qt (Qs (clsL v.2 (Qz q.1 q.1.2.2.1.2 0 (Qi q.1)))) (Q2e q.2.2.2) (Q3 q.2.2.2:Int),G,G',?_,?_,?_,?_,?_,?_,by omega,?_⟩
 ·rw[F6E,a1,J0,many1,J0]
  simp only[ew,K5,gT (show(0:Int)≤((n*Q3 q.2.2.2:Nat):Int) by omega),gT (show((n*Q3 q.2.2.2:Nat):Int)≤(lim:Int) by omega),gT (Int.le_refl ((n*Q3 q.2.2.2:Nat):Int)),s1',J0,u1',w1',e1,e3',e5,Kt]
 ·rw[F7E,many2,J0,Q5g q.2.2 h.tr,J0]
  simp only[ew,K5,gT (show(0:Int)≤((n*Q3 q.2.2.2:Nat):Int) by omega),gT (show((n*Q3 q.2.2.2:Nat):Int)≤(lim:Int) by omega),gT (Int.le_refl ((n*Q3 q.2.2.2:Nat):Int)),p1',J0,b1,r1',e2,e4',e6,Kt]
 ·refine Qfl (by rw[l2,u2,l1]) fun k hk=> ?_
  rw[row2 k (by omega),u3 k (by omega),if_neg (by omega),row1 k (by omega),Q8p h n hl k]
 ·rw[r2,w2,Kf,Kf]
  have q1:Z.map (fun g=>Qt ((List.range n).map Int.ofNat) g.2 (Q3 q.2.2.2:Int))=(Z.map Prod.snd).map fun g=>Qt ((List.range n).map Int.ofNat) g (Q3 q.2.2.2:Int):=by rw[List.map_map];rfl
  have q2:X.map (fun g=>Qt ((List.range n).map Int.ofNat) g.2 (Q3 q.2.2.2:Int))=(X.map Prod.snd).map fun g=>Qt ((List.range n).map Int.ofNat) g (Q3 q.2.2.2:Int):=by rw[List.map_map];rfl
  rw[q1,q2,a2,b2]
 ·refine Qbq (by omega) (n:=100000) (by omega) fun k hk=> ?_
  rw[row2 k (by omega)]
  have h1:=Q3h ((List.range' 0 n).flatMap (Q3c q v)) k
  have h2:=Qv (List.range' 0 n) (Q3c q v) 2000 (fun c _=>by
   have h3:=Q1u hv (c:Int)
   have:=Qv (Q12 q.1 v.2 (c:Int)) (toS q (ltC q v (c:Int)) c) 32 (fun to _=>by rw[Q4g];omega)
   rw[Q3c]
   omega)
  rw[List.length_range']at h2
  omega
 ·refine Qdp r2 (by simp;omega) fun l hlm=> ?_
  obtain⟨x,hx,rfl⟩:=Kv.1 hlm
  have hx':x.2∈Q38 q.2.2.2:=by rw[←b2];exact K1t (List.mem_of_mem_drop hx)
  have h1:=(Q3t _ _ hx').1
  have h2:=Q2l ((List.range n).map Int.ofNat) x.2 (Q3 q.2.2.2:Int) 40 (by omega)
  rw[Ki,List.length_range]at h2
  omega
 ·have hn1:=Qd7 hv
  have hn1':1≤n:=by have:=hn1.1;have h2:=hn1.2.1;omega
  have hstl':=fun c=>Q5y hv c
  have hY1:Y1.length=n*Q3 q.2.2.2:=l2
  have hrows:∀r∈Y1,Q10 r.2∧∀w∈r.2,0≤w∧w<((n*Q3 q.2.2.2:Nat):Int):=by
   intro r hr
   obtain⟨k,hk,rfl⟩:=List.mem_iff_getElem.1 hr
   have e:Q1i Y1 k=(Y1[k]).2 :=by simp[Q1i,K1,hk]
   rw[←e,row2 k (by omega)]
   refine⟨by rw[←Q8p h n hl k];exact Qk _,fun w hw=> ?_⟩
   obtain⟨c,_,hw⟩:=List.mem_flatMap.1 (Q32.1 hw)
   obtain⟨to,hto,j,hj,_,rfl⟩:=Q5n.1 hw
   have h1:=hstl' (c:Int) to hto
   rw[hn]at h1
   have h3:to*(Q3 q.2.2.2:Int)≤((n:Int)-1)*(Q3 q.2.2.2:Int):=Int.mul_le_mul_of_nonneg_right (by omega) (by omega)
   have h4:0≤to*(Q3 q.2.2.2:Int):=Int.mul_nonneg h1.1 (by omega)
   have h5:((n:Int)-1)*(Q3 q.2.2.2:Int)=(n:Int)*(Q3 q.2.2.2:Int)-(Q3 q.2.2.2:Int):=by rw[Int.sub_mul,Int.one_mul]
   rw[Int.natCast_mul]
   omega
  have hpos:1≤n*Q3 q.2.2.2:=Nat.mul_pos hn1' (by omega)
  refine⟨⟨n,hn.symm,hn1',l2⟩,by omega,by omega,fun r hr=> ?_,by omega,?_,fun r hr=> ?_,?_⟩
  ·obtain⟨h1,h2⟩:=hrows r hr
   have:=Q1d h1 h2
   rw[l2]
   exact⟨by omega,h2⟩
  ·rw[l2]
   exact Q8n hsi hfi
  ·have hm1:r.2∈G'.map Prod.snd:=K1t hr
   rw[r2,Kf]at hm1
   obtain⟨x,hx,hx2⟩:=Kv.1 hm1
   have hx':x.2∈Q38 q.2.2.2:=by rw[←b2];exact K1t hx
   obtain⟨h1,h2⟩:=Q3t _ _ hx'
   have h3:=Q2l ((List.range n).map Int.ofNat) x.2 (Q3 q.2.2.2:Int) 40 (by omega)
   rw[Ki,List.length_range]at h3
   refine⟨r5 r hr,by rw[←hx2];omega,?_⟩
   rw[←hx2,l2]
   refine Q8n (fun y hy=> ?_) h2
   obtain⟨i,hi,rfl⟩:=Kv.1 hy
   rw[K1y]at hi
   exact⟨Int.natCast_nonneg _,Int.ofNat_lt.2 hi⟩
  ·have:=congrArg List.length r2
   rw[Ki,Ki,Kf]at this
   omega
theorem Q8j(d:Nat):∀(i:Nat) (b:Bool) (x:List DSaid) (k:Int),i+d=x.length→x.length≤1048576→0≤k→k+2*d≤4000000000000000000→∃y,F8e (b,x) k (i:Int)=some ((b,y),k+2*d):=by
 induction d with
 |zero=>
  intro i b x k hi hl hk hk2
  exact⟨x,by rw[F8eE,gF (by simp only;omega)];simp⟩
 |succ d ih=>
  intro i b x k hi hl hk hk2
  have hlt:i<x.length:=by omega
  have hw:IntKind.i64.wrap (k+1)=k+1:=wr (by omega)
  have hw2:IntKind.i64.wrap (k+1+1)=k+2:=by rw[wr (by omega)];omega
  obtain⟨y,e⟩:=ih (i+1) b ((x.set i (k,(x.getD i (0,0)).2)).set i (((x.set i (k,(x.getD i (0,0)).2)).getD i (0,0)).1,k+1)) (k+2) (by simp;omega) (by simpa using hl) (by omega) (by omega)
  refine⟨y,?_⟩
  rw[F8eE]
  simp only[gT (show(i:Int)<(x.length:Int) by omega),gT (show(0:Int)≤(i:Int) by omega),Ko,K5,hw,hw2,up1 i (by omega),J1,e]
  congr 2
  omega
theorem Qd8(b:Bool)(x:List DSaid)(k:Int)(hl:x.length≤1048576)(h0:0≤k)(hk:k+2*x.length≤4000000000000000000):∃y,F2u (b,x) k=some ((b,y),k+2*x.length):=by
 obtain⟨y,e⟩:=Q8j x.length 0 b x k (by omega) hl h0 hk
 have e':F8e (b,x) k 0=_:=e
 exact⟨y,by rw[F2uE,e',J0]⟩
theorem Q8i(q:DQuestion)(hs:SmQ q):∃a b c d k,F68 q.1.1 q.1.2.1 (q.1.2.2.1.1,q.1.2.2.1.2) (q.1.2.2.2.1,q.1.2.2.2.2) (q.2.1.1,q.2.1.2) (q.2.2.1,q.2.2.2) 1=some (a,b,c,d,k)∧1≤k∧k≤3100000000000000000:=by
 obtain⟨y,z,k',e1,e2,e3⟩:=Q9u q.1 hs.prog 1 (by omega) (by omega)
 have hz:=Q55 hs.rows
 have e4:=Qbl q.2.1.1 q.2.1.2 k' hs.rows (by omega) (by omega)
 have hl:=hs.said
 obtain⟨w,e5⟩:=Qd8 q.2.2.1 q.2.2.2 (k'+2*Q2f q.2.1.2) hl (by omega) (by omega)
 refine⟨(y.1,y.2),(z.1,z.2),(q.2.1.1,Q49 k' q.2.1.2),(q.2.2.1,w),k'+2*Q2f q.2.1.2+2*q.2.2.2.length,by rw[F68E,e1,J0];simp only[e4,J0,e5],?_,?_⟩<;>omega
theorem findIdx?_lt{α:Type}{K:List α}{q:α→Bool}{i:Nat}(h:K.findIdx? q=some i):i<K.length:=by
 rw[List.findIdx?_eq_some_iff_getElem]at h
 exact h.1
theorem findIdx?_more{α:Type}{K L:List α}{q:α→Bool}{i:Nat}(h:K.findIdx? q=some i):(K++L).findIdx? q=some i:=by
 rw[List.findIdx?_append,h]
 rfl
theorem findIdx?_new{α:Type}{K:List α}{q:α→Bool}{x:α}(h:K.findIdx? q=none)(hx:q x=true):(K++[x]).findIdx? q=some K.length:=by
 rw[List.findIdx?_append,h,List.findIdx?_cons,hx]
 simp
theorem findIdx?_at{α:Type}[BEq α][LawfulBEq α]{K:List α}{x:α}{i:Nat}(h:K.findIdx? (fun y=>x==y)=some i):K[i]? =some x:=by
 rw[List.findIdx?_eq_some_iff_getElem]at h
 obtain⟨h1,h2,_⟩:=h
 rw[Kc h1]
 exact congrArg some (eq_of_beq h2).symm
inductive Way (g:Int→List Int):Int→Int→Prop
 |here (a:Int):Way g a a
 |step {a b c:Int}:b∈g a→Way g b c→Way g a c
theorem Way.trans{g:Int→List Int}{a b c:Int}(h:Way g a b)(h2:Way g b c):Way g a c:=by
 induction h with
 |here a=>exact h2
 |step e _ ih=>exact Way.step e (ih h2)
theorem Way.arc{g:Int→List Int}{a b:Int}(h:b∈g a):Way g a b:=Way.step h (Way.here b)
theorem Way.snoc{g:Int→List Int}{a b c:Int}(h:Way g a b)(h2:c∈g b):Way g a c:=h.trans (Way.arc h2)
theorem Way.closed{g:Int→List Int}{P:Int→Prop}(hc:∀x,P x→∀y∈g x,P y){a b:Int}(h:Way g a b):P a→P b:=by
 induction h with
 |here a=>exact id
 |step e _ ih=>exact fun h=>ih (hc _ h _ e)
theorem Way.turn{g r:Int→List Int}(hr:∀x y,y∈r x→x∈g y){a b:Int}(h:Way r a b):Way g b a:=by
 induction h with
 |here a=>exact Way.here a
 |step e _ ih=>exact ih.trans (Way.arc (hr _ _ e))
def Scc(g:Int→List Int)(a b:Int):Prop:=Way g a b∧Way g b a
theorem Scc.refl(g:Int→List Int)(a:Int):Scc g a a:=⟨Way.here a,Way.here a⟩
theorem Scc.symm{g:Int→List Int}{a b:Int}(h:Scc g a b):Scc g b a:=⟨h.2,h.1⟩
theorem Scc.trans{g:Int→List Int}{a b c:Int}(h:Scc g a b)(h2:Scc g b c):Scc g a c:=⟨h.1.trans h2.1,h2.2.trans h.2⟩
def IsL(g:Int→List Int)(x m:Int):Prop:=Scc g x m∧∀y,Scc g x y→m≤y
theorem IsL.one{g:Int→List Int}{x m k:Int}(h:IsL g x m)(h2:IsL g x k):m=k:=Int.le_antisymm (h.2 k h2.1) (h2.2 m h.1)
theorem IsL.of{g:Int→List Int}{x y m:Int}(h:IsL g x m)(e:Scc g x y):IsL g y m:=⟨e.symm.trans h.1,fun z hz=>h.2 z (e.trans hz)⟩
theorem Qgx{α:Type}(P:α→Prop):∀(l:List α),(∃x∈l,P x)→∃A u B,l=A++u::B∧P u∧∀x∈B,¬P x:=by
 intro l
 induction l with
 |nil=>rintro⟨x,hx,_⟩;cases hx
 |cons a l ih=>
  intro h
  by_cases c:∃x∈l,P x
  ·obtain⟨A,u,B,e,h1,h2⟩:=ih c
   exact⟨a::A,u,B,by rw[e,List.cons_append],h1,h2⟩
  ·obtain⟨x,hx,px⟩:=h
   rcases Kd.1 hx with rfl|hx
   ·exact⟨[],x,l,rfl,px,fun y hy py=>c ⟨y,hy,py⟩⟩
   ·exact absurd ⟨x,hx,px⟩ c
theorem Q9x{α:Type}{A X A2 B:List α}{u:α}(hn:(A++u::X).Nodup)(e:A++u::X=A2++u::B):A=A2:=by
 rcases List.append_eq_append_iff.1 e with⟨t,e1,e2⟩|⟨t,e1,e2⟩
 ·cases t with
  |nil=>rw[e1,K1s]
  |cons c t=>
   rw[List.cons_append,Kx]at e2
   obtain⟨rfl,e3⟩:=e2
   rw[e3]at hn
   have:=(K18.1 hn).2.1
   rw[K1v]at this
   exact absurd (by simp) this.1
 ·cases t with
  |nil=>rw[e1,K1s]
  |cons c t=>
   rw[List.cons_append,Kx]at e2
   obtain⟨rfl,e3⟩:=e2
   rw[e1,Kj,List.cons_append]at hn
   have:=(K18.1 hn).2.1
   rw[K1v]at this
   exact absurd (by simp) this.1
structure FinI (g:Int→List Int) (G S:Int→Prop) (o:List Int):Prop where
 see:∀x,S x↔(x∈o∨G x)
 dis:∀x∈o,¬G x
 suc:∀x∈o,∀y∈g x,S y
 star:∀A z B,o=A++z::B→(∀w,Way g z w→w∈A∨w=z)∨∃y,Scc g z y∧y∉A∧y≠z
 nod:o.Nodup
theorem FinI.enter{g:Int→List Int}{G S:Int→Prop}{o:List Int}(h:FinI g G S o){k:Int}(hk:¬S k):FinI g (fun x=>G x∨x=k) (fun x=>S x∨x=k) o:=by
 refine⟨fun x=> ?_,fun x hx hc=> ?_,fun x hx y hy=>Or.inl (h.suc x hx y hy),h.star,h.nod⟩
 ·rw[h.see]
  constructor
  ·rintro((a|a)|a)
   ·exact Or.inl a
   ·exact Or.inr (Or.inl a)
   ·exact Or.inr (Or.inr a)
  ·rintro(a|a|a)
   ·exact Or.inl (Or.inl a)
   ·exact Or.inl (Or.inr a)
   ·exact Or.inr a
 ·rcases hc with hc|hc
  ·exact h.dis x hx hc
  ·subst hc
   exact hk ((h.see x).2 (Or.inl hx))
theorem FinI.leave{g:Int→List Int}{G S:Int→Prop}{o:List Int}{k:Int}(h:FinI g (fun x=>G x∨x=k) S o)(hg:¬G k)(hs:∀y∈g k,S y)(hw:∀x,G x→Way g x k):FinI g G S (o++[k]):=by
 have hko:k∉o:=fun c=>h.dis k c (Or.inr rfl)
 refine⟨fun x=> ?_,fun x hx hc=> ?_,fun x hx y hy=> ?_,fun A z B e=> ?_,?_⟩
 ·rw[h.see,Kl,Km]
  constructor
  ·rintro(a|a|a)
   ·exact Or.inl (Or.inl a)
   ·exact Or.inr a
   ·exact Or.inl (Or.inr a)
  ·rintro((a|a)|a)
   ·exact Or.inl a
   ·exact Or.inr (Or.inr a)
   ·exact Or.inr (Or.inl a)
 ·rw[Kl,Km]at hx
  rcases hx with hx|hx
  ·exact h.dis x hx (Or.inl hc)
  ·subst hx
   exact hg hc
 ·rw[Kl,Km]at hx
  rcases hx with hx|hx
  ·exact h.suc x hx y hy
  ·subst hx
   exact hs y hy
 ·rcases List.eq_nil_or_concat B with hB|⟨B2,b,hB⟩
  ·subst hB
   obtain⟨e1,e2⟩:=List.append_inj' e rfl
   simp only[Kx,and_true]at e2
   subst e1 e2
   by_cases c:∃y,G y∧Way g k y
   ·obtain⟨y,hy,hy2⟩:=c
    refine Or.inr ⟨y,⟨hy2,hw y hy⟩,fun q=>h.dis y q (Or.inl hy),fun q=> ?_⟩
    subst q
    exact hg hy
   ·refine Or.inl fun w hkw=> ?_
    have key:Way g k w∧(w∈o∨w=k):=Way.closed (P:=fun x=>Way g k x∧(x∈o∨x=k)) (fun x hx y hy=>by
     have hky:=hx.1.snoc hy
     have hsy:S y:=by
      rcases hx.2 with q|q
      ·exact h.suc x q y hy
      ·subst q
       exact hs y hy
     refine⟨hky,?_⟩
     rcases(h.see y).1 hsy with q|q|q
     ·exact Or.inl q
     ·exact absurd ⟨y,q,hky⟩ c
     ·exact Or.inr q) hkw ⟨Way.here k,Or.inr rfl⟩
    exact key.2
  ·subst hB
   rw[List.concat_eq_append]at e
   have e':o++[k]=(A++z::B2)++[b]:=by rw[e];simp
   obtain⟨e1,_⟩:=List.append_inj' e' rfl
   exact h.star A z B2 e1
 ·rw[K18]
  refine⟨h.nod,List.pairwise_singleton _ _,fun a ha b hb=> ?_⟩
  rw[Km]at hb
  rintro rfl
  subst hb
  exact hko ha
theorem Qgk{g:Int→List Int}{S ok:Int→Prop}{o:List Int}(h:FinI g (fun _=>False) S o)(all:∀x,ok x→x∈o)(okc:∀x,ok x→∀y∈g x,ok y){A B:List Int}{z y:Int}(ho:o=A++z::B)(hy:ok y)(hyz:Way g y z)(hB:∀b∈B,¬Scc g y b):Way g z y:=by
 obtain⟨A2,u,B2,e,hu,hl⟩:=Qgx (fun x=>Scc g y x) o ⟨y,all y hy,Scc.refl g y⟩
 have oku:ok u:=Way.closed okc hu.1 hy
 rcases h.star A2 u B2 e with c|⟨y2,c1,c2,c3⟩
 ·rcases c z (hu.2.trans hyz)with cz|cz
  ·have huo:u∈A++z::B:=by rw[←ho];exact all u oku
   rw[Kl,Kd]at huo
   rcases huo with q|q|q
   ·exfalso
    obtain⟨A1,X,eA⟩:=List.append_of_mem q
    have e3:A1++u::(X++z::B)=A2++u::B2:=by rw[←e,ho,eA];simp
    have hn:(A1++u::(X++z::B)).Nodup :=by rw[e3,←e];exact h.nod
    have e4:=Q9x hn e3
    subst e4
    exact(K18.1 hn).2.2 z cz z (by simp) rfl
   ·subst q
    exact hu.2
   ·exact absurd hu (hB u q)
  ·subst cz
   exact hu.2
 ·exfalso
  have o2:y2∈A2++u::B2:=by rw[←e];exact all y2 (Way.closed okc c1.1 oku)
  rw[Kl,Kd]at o2
  rcases o2 with q|q|q
  ·exact c2 q
  ·exact c3 q
  ·exact hl y2 q (hu.trans c1)
structure ColI (g:Int→List Int) (r:Int) (Base G S:Int→Prop) (o:List Int):Prop where
 see:∀x,S x↔(Base x∨x∈o∨G x)
 new:∀x,x∈o∨G x→¬Base x∧Way g r x
 suc:∀x∈o,∀y∈g x,S y
theorem ColI.enter{g:Int→List Int}{r:Int}{Base G S:Int→Prop}{o:List Int}(h:ColI g r Base G S o){k:Int}(hk:¬S k)(hr:Way g r k):ColI g r Base (fun x=>G x∨x=k) (fun x=>S x∨x=k) o:=by
 refine⟨fun x=> ?_,fun x hx=> ?_,fun x hx y hy=>Or.inl (h.suc x hx y hy)⟩
 ·rw[h.see]
  constructor
  ·rintro((a|a|a)|a)
   ·exact Or.inl a
   ·exact Or.inr (Or.inl a)
   ·exact Or.inr (Or.inr (Or.inl a))
   ·exact Or.inr (Or.inr (Or.inr a))
  ·rintro(a|a|a|a)
   ·exact Or.inl (Or.inl a)
   ·exact Or.inl (Or.inr (Or.inl a))
   ·exact Or.inl (Or.inr (Or.inr a))
   ·exact Or.inr a
 ·rcases hx with a|a|a
  ·exact h.new x (Or.inl a)
  ·exact h.new x (Or.inr a)
  ·subst a
   exact⟨fun c=>hk ((h.see x).2 (Or.inl c)),hr⟩
theorem ColI.leave{g:Int→List Int}{r:Int}{Base G S:Int→Prop}{o:List Int}{k:Int}(h:ColI g r Base (fun x=>G x∨x=k) S o)(hs:∀y∈g k,S y):ColI g r Base G S (o++[k]):=by
 refine⟨fun x=> ?_,fun x hx=> ?_,fun x hx y hy=> ?_⟩
 ·rw[h.see,Kl,Km]
  constructor
  ·rintro(a|a|a|a)
   ·exact Or.inl a
   ·exact Or.inr (Or.inl (Or.inl a))
   ·exact Or.inr (Or.inr a)
   ·exact Or.inr (Or.inl (Or.inr a))
  ·rintro(a|(a|a)|a)
   ·exact Or.inl a
   ·exact Or.inr (Or.inl a)
   ·exact Or.inr (Or.inr (Or.inr a))
   ·exact Or.inr (Or.inr (Or.inl a))
 ·rw[Kl,Km]at hx
  rcases hx with(a|a)|a
  ·exact h.new x (Or.inl a)
  ·exact h.new x (Or.inr (Or.inr a))
  ·exact h.new x (Or.inr (Or.inl a))
 ·rw[Kl,Km]at hx
  rcases hx with a|a
  ·exact h.suc x a y hy
  ·subst a
   exact hs y hy
theorem Qgh{g r:Int→List Int}{ok S T:Int→Prop}{o q:List Int}(h:FinI g (fun _=>False) S o)(all:∀x,ok x→x∈o)(okc:∀x,ok x→∀y∈g x,ok y)(okr:∀x,ok x→∀y∈r x,ok y)(hr:∀x y,ok x→(y∈r x↔x∈g y)){A B:List Int}{z:Int}(ho:o=A++z::B)(hz:ok z)
  {Base:Int→Prop}(hb:∀x,ok x→(Base x↔∃b∈B,Scc g x b))(hc:ColI r z Base (fun _=>False) T q)(hzb:¬Base z)(hzq:z∈q)(x:Int)(hx:ok x):x∈q↔Scc g z x:=by
 have turn:∀a b,ok a→Way r a b→Way g b a:=by
  intro a b ha hw
  induction hw with
  |here a=>exact Way.here a
  |step e _ ih=>exact(ih (okr _ ha _ e)).trans (Way.arc ((hr _ _ ha).1 e))
 constructor
 ·intro hq
  obtain⟨h1,h2⟩:=hc.new x (Or.inl hq)
  have h3:=turn _ _ hz h2
  exact⟨Qgk h all okc ho hx h3 (fun b hb2 hs=>h1 ((hb x hx).2 ⟨b,hb2,hs⟩)),h3⟩
 ·intro hs
  have back:∀a b,ok a→Way g a b→Way r b a:=by
   intro a b ha hw
   induction hw with
   |here a=>exact Way.here a
   |step e _ ih=>exact(ih (okc _ ha _ e)).snoc ((hr _ _ (okc _ ha _ e)).2 e)
  have key:∀a,Way r a x→ok a→a∈q→Scc g z a→x∈q:=by
   intro a hw
   induction hw with
   |here a=>exact fun _ hq _=>hq
   |step e hw ih=>
    intro ha hq hsa
    have okb:=okr _ ha _ e
    have hsb:=hc.suc _ hq _ e
    have sb:Scc g z _:=⟨hs.1.trans (turn _ _ okb hw),(Way.arc ((hr _ _ ha).1 e)).trans hsa.2⟩
    rcases(hc.see _).1 hsb with c|c|c
    ·exfalso
     obtain⟨b,hb1,hb2⟩:=(hb _ okb).1 c
     exact hzb ((hb z hz).2 ⟨b,hb1,sb.trans hb2⟩)
    ·exact ih hx hs okb c sb
    ·exact c.elim
  exact key z (back _ _ hx hs.2) hz hzq (Scc.refl g z)
def updI(f:Int→Int)(k v:Int):Int→Int:=fun x=>if x=k then v else f x
theorem Qg(f:Int→Int)(k v:Int):updI f k v k=v:=if_pos rfl
theorem Qh(f:Int→Int){k x:Int}(v:Int)(h:¬x=k):updI f k v x=f x:=if_neg h
structure TarI (g:Int→List Int) (G:Int→Prop) (fo pa:Int→Int) (st:List Int) (vis:Int):Prop where
 fr:∀x,0≤fo x∧fo x≤vis
 see:∀x,fo x≠0↔(0≤pa x∨x∈st)
 dis:∀x∈st,pa x<0
 nn:∀x∈st,0≤x
 inc:st.Pairwise fun a b=>fo a<fo b
 gs:∀x,G x→x∈st
 cl:∀x,0≤pa x→∀y∈g x,0≤pa y
 val:∀x,0≤pa x→IsL g x (pa x)
 blk:∀x∈st,¬G x→(∀y∈g x,fo y≠0)∧∃y∈st,fo y<fo x∧Way g x y
theorem TarI.enter{g:Int→List Int}{G:Int→Prop}{fo pa:Int→Int}{st:List Int}{vis v:Int}(h:TarI g G fo pa st vis)(hv:fo v=0)(hv0:0≤v):TarI g (fun x=>G x∨x=v) (updI fo v (vis+1)) pa (st++[v]) (vis+1):=by
 have hvis:=h.fr v
 have hns:v∉st:=fun c=>(h.see v).2 (Or.inr c) hv
 have hne:∀x∈st,¬x=v:=fun x hx e=>by
  subst e
  exact hns hx
 have hup:∀y,fo y≠0→updI fo v (vis+1) y≠0:=fun y hy=>by
  by_cases c:y=v
  ·subst c
   exact absurd hv hy
  ·rwa[Qh _ _ c]
 refine⟨fun x=> ?_,fun x=> ?_,fun x hx=> ?_,fun x hx=> ?_,?_,fun x hx=> ?_,h.cl,h.val,fun x hx hg=> ?_⟩
 ·by_cases c:x=v
  ·subst c
   rw[Qg]
   omega
  ·rw[Qh _ _ c]
   have:=h.fr x
   omega
 ·by_cases c:x=v
  ·subst c
   rw[Qg]
   exact⟨fun _=>Or.inr (by simp),fun _=>by omega⟩
  ·rw[Qh _ _ c,h.see,Kl,Km]
   constructor
   ·rintro(a|a)
    ·exact Or.inl a
    ·exact Or.inr (Or.inl a)
   ·rintro(a|a|a)
    ·exact Or.inl a
    ·exact Or.inr a
    ·exact absurd a c
 ·rw[Kl,Km]at hx
  rcases hx with hx|hx
  ·exact h.dis x hx
  ·subst hx
   rcases K2a (pa x) 0 with c|c
   ·exact c
   ·exact absurd hv ((h.see x).2 (Or.inl c))
 ·rw[Kl,Km]at hx
  rcases hx with hx|hx
  ·exact h.nn x hx
  ·omega
 ·rw[List.pairwise_append]
  refine⟨h.inc.imp_of_mem fun{a b} ha hb hab=> ?_,List.pairwise_singleton _ _,fun a ha b hb=> ?_⟩
  ·rw[Qh _ _ (hne a ha),Qh _ _ (hne b hb)]
   exact hab
  ·rw[Km]at hb
   subst hb
   rw[Qh _ _ (hne a ha),Qg]
   have:=h.fr a
   omega
 ·rw[Kl,Km]
  rcases hx with hx|hx
  ·exact Or.inl (h.gs x hx)
  ·exact Or.inr hx
 ·rw[Kl,Km]at hx
  rcases hx with hx|hx
  ·obtain⟨h1,y,h2,h3,h4⟩:=h.blk x hx (fun c=>hg (Or.inl c))
   refine⟨fun z hz=>hup z (h1 z hz),y,Kb _ h2,?_,h4⟩
   rw[Qh _ _ (hne y h2),Qh _ _ (hne x hx)]
   exact h3
  ·exact absurd (Or.inr hx) hg
structure TarL (g:Int→List Int) (G:Int→Prop) (v:Int) (S0:List Int) (fo0 lo0:Int→Int) (vis0:Int) (fo lo pa:Int→Int) (st:List Int) (vis:Int) (done:List Int):Prop where
 inv:TarI g (fun x=>G x∨x=v) fo pa st vis
 gs0:∀x,G x→x∈S0
 stk:∃M,st=S0++v::M∧∀x∈M,Way g v x∧∀y∈g x,y∈S0→lo v≤fo y
 keep:∀x,fo0 x≠0→fo x=fo0 x∧lo x=lo0 x
 fv:vis0<fo v
 vs:vis0≤vis
 lv:lo v≤fo v
 low:∃u∈st,fo u=lo v∧Way g v u
 dn:∀w∈done,fo w≠0∧(w∈S0→lo v≤fo w)
structure TarP (g:Int→List Int) (G:Int→Prop) (v:Int) (S0:List Int) (fo0 lo0:Int→Int) (vis0:Int) (fo lo pa:Int→Int) (st:List Int) (vis:Int):Prop where
 inv:TarI g G fo pa st vis
 keep:∀x,fo0 x≠0→fo x=fo0 x∧lo x=lo0 x
 fv:vis0<fo v
 vs:vis0≤vis
 out:∃N,st=S0++N∧(∀x∈N,Way g v x∧∀y∈g x,y∈S0→lo v≤fo y)∧((N=[]∧fo v≤lo v)∨∃u∈st,fo u=lo v∧Way g v u)
theorem TarL.start{g:Int→List Int}{G:Int→Prop}{fo lo pa:Int→Int}{st:List Int}{vis v:Int}(h:TarI g G fo pa st vis)(hv:fo v=0)(hv0:0≤v):TarL g G v st fo lo vis (updI fo v (vis+1)) (updI lo v (vis+1)) pa (st++[v]) (vis+1) []:=by
 refine⟨h.enter hv hv0,h.gs,⟨[],rfl,fun x hx=>by cases hx⟩,fun x hx=> ?_,?_,by omega,?_,⟨v,by simp,?_,Way.here v⟩,fun w hw=>by cases hw⟩
 ·have:¬x=v:=fun e=>hx (by rw[e];exact hv)
  exact⟨Qh _ _ this,Qh _ _ this⟩
 ·rw[Qg];omega
 ·rw[Qg,Qg];omega
 ·rw[Qg,Qg]
theorem TarL.skip{g:Int→List Int}{G:Int→Prop}{fo0 lo0 fo lo pa:Int→Int}{S0 st done:List Int}{vis0 vis v w:Int}(h:TarL g G v S0 fo0 lo0 vis0 fo lo pa st vis done)(hp:0≤pa w):TarL g G v S0 fo0 lo0 vis0 fo lo pa st vis (w::done):=by
 refine{h with dn:=fun x hx=> ?_}
 rcases Kd.1 hx with rfl|hx
 ·refine⟨(h.inv.see x).2 (Or.inl hp),fun hs=> ?_⟩
  obtain⟨M,e,_⟩:=h.stk
  have:=h.inv.dis x (by rw[e];exact Kb _ hs)
  omega
 ·exact h.dn x hx
theorem TarL.seen{g:Int→List Int}{G:Int→Prop}{fo0 lo0 fo lo pa:Int→Int}{S0 st done:List Int}{vis0 vis v w:Int}(h:TarL g G v S0 fo0 lo0 vis0 fo lo pa st vis done)(hw:w∈g v)(h1:fo w≠0)(hp:pa w<0)(hv0:fo0 v=0):
  TarL g G v S0 fo0 lo0 vis0 fo (updI lo v (min (lo v) (fo w))) pa st vis (w::done):=by
 obtain⟨M,e,hM⟩:=h.stk
 have hlv:=h.lv
 refine⟨h.inv,h.gs0,⟨M,e,fun x hx=>⟨(hM x hx).1,fun y hy hs=> ?_⟩⟩,fun x hx=> ?_,h.fv,h.vs,?_,?_,fun x hx=> ?_⟩
 ·rw[Qg]
  have:=(hM x hx).2 y hy hs
  omega
 ·have:¬x=v:=fun e=>hx (by rw[e];exact hv0)
  rw[Qh _ _ this]
  exact h.keep x hx
 ·rw[Qg]
  omega
 ·rw[Qg]
  rcases Int.le_total (lo v) (fo w)with c|c
  ·obtain⟨u,h2,h3,h4⟩:=h.low
   exact⟨u,h2,by omega,h4⟩
  ·refine⟨w,?_,by omega,Way.arc hw⟩
   rcases(h.inv.see w).1 h1 with q|q
   ·omega
   ·exact q
 ·rw[Qg]
  rcases Kd.1 hx with rfl|hx
  ·exact⟨h1,fun _=>by omega⟩
  ·have:=h.dn x hx
   exact⟨this.1,fun q=>by have:=this.2 q;omega⟩
theorem TarL.call{g:Int→List Int}{G:Int→Prop}{fo0 lo0 fo lo pa fo2 lo2 pa2:Int→Int}{S0 st done st2:List Int}{vis0 vis vis2 v w:Int}(h:TarL g G v S0 fo0 lo0 vis0 fo lo pa st vis done)(hw:w∈g v)(h1:fo w=0)(hv0:fo0 v=0)
  (p:TarP g (fun x=>G x∨x=v) w st fo lo vis fo2 lo2 pa2 st2 vis2):TarL g G v S0 fo0 lo0 vis0 fo2 (updI lo2 v (min (lo2 v) (lo2 w))) pa2 st2 vis2 (w::done):=by
 obtain⟨M,e,hM⟩:=h.stk
 obtain⟨N,e2,hN,hout⟩:=p.out
 have hlv:=h.lv
 have hfv:=h.fv
 have hvs:=h.vs
 have hvs2:=p.vs
 have hpfv:=p.fv
 have hvr:=h.inv.fr v
 have hvv:v∈st:=by rw[e];simp
 have hfv0:fo v≠0:=(h.inv.see v).2 (Or.inr hvv)
 obtain⟨k1,k2⟩:=p.keep v hfv0
 have kst:∀x∈st,fo2 x=fo x∧lo2 x=lo x:=fun x hx=>p.keep x ((h.inv.see x).2 (Or.inr hx))
 have hS:∀y,y∈S0→y∈st:=fun y hy=>by rw[e];exact Kb _ hy
 refine⟨p.inv,h.gs0,⟨M++N,by rw[e2,e];simp,fun x hx=> ?_⟩,fun x hx=> ?_,by omega,by omega,?_,?_,fun x hx=> ?_⟩
 ·rw[Qg,k2]
  rcases Kl.1 hx with hx|hx
  ·refine⟨(hM x hx).1,fun y hy hs=> ?_⟩
   have a:=(hM x hx).2 y hy hs
   have b:=(kst y (hS y hs)).1
   omega
  ·refine⟨Way.step hw (hN x hx).1,fun y hy hs=> ?_⟩
   have a:=(hN x hx).2 y hy (hS y hs)
   omega
 ·have hne:¬x=v:=fun e=>hx (by rw[e];exact hv0)
  obtain⟨a1,a2⟩:=h.keep x hx
  obtain⟨b1,b2⟩:=p.keep x (by rw[a1];exact hx)
  rw[Qh _ _ hne,b1,b2,a1,a2]
  exact⟨rfl,rfl⟩
 ·rw[Qg,k2,k1]
  omega
 ·rw[Qg,k2]
  have old:∃u∈st2,fo2 u=lo v∧Way g v u:=by
   obtain⟨u,h2,h3,h4⟩:=h.low
   exact⟨u,by rw[e2];exact Kb _ h2,by rw[(kst u h2).1];exact h3,h4⟩
  rcases Int.le_total (lo v) (lo2 w)with c|c
  ·rw[Int.min_eq_left c]
   exact old
  ·rw[Int.min_eq_right c]
   rcases hout with⟨_,q⟩|⟨u,q1,q2,q3⟩
   ·have:lo2 w=lo v:=by omega
    rw[this]
    exact old
   ·exact⟨u,q1,q2,Way.step hw q3⟩
 ·rw[Qg,k2]
  rcases Kd.1 hx with rfl|hx
  ·refine⟨by omega,fun hs=> ?_⟩
   exact absurd h1 ((h.inv.see x).2 (Or.inr (hS x hs)))
  ·obtain⟨a1,a2⟩:=h.dn x hx
   obtain⟨b1,b2⟩:=p.keep x a1
   rw[b1]
   exact⟨a1,fun q=>by have:=a2 q;omega⟩
theorem TarL.stay{g:Int→List Int}{G:Int→Prop}{fo0 lo0 fo lo pa:Int→Int}{S0 st done:List Int}{vis0 vis v:Int}(h:TarL g G v S0 fo0 lo0 vis0 fo lo pa st vis done)(hd:∀y∈g v,y∈done)(hl:lo v<fo v):TarP g G v S0 fo0 lo0 vis0 fo lo pa st vis:=by
 obtain⟨M,e,hM⟩:=h.stk
 refine⟨{h.inv with gs:=fun x hx=>h.inv.gs x (Or.inl hx),blk:=fun x hx hg=> ?_},h.keep,h.fv,h.vs,⟨v::M,e,fun x hx=> ?_,Or.inr h.low⟩⟩
 ·by_cases c:x=v
  ·subst c
   obtain⟨u,h2,h3,h4⟩:=h.low
   exact⟨fun y hy=>(h.dn y (hd y hy)).1,u,h2,by omega,h4⟩
  ·exact h.inv.blk x hx (fun q=>q.elim hg c)
 ·rcases Kd.1 hx with rfl|hx
  ·exact⟨Way.here x,fun y hy hs=>(h.dn y (hd y hy)).2 hs⟩
  ·exact hM x hx
theorem TarL.pop{g:Int→List Int}{G:Int→Prop}{fo0 lo0 fo lo pa:Int→Int}{S0 M done:List Int}{vis0 vis v m:Int}(h:TarL g G v S0 fo0 lo0 vis0 fo lo pa (S0++v::M) vis done)(hd:∀y∈g v,y∈done)(hl:fo v≤lo v)(hm:m∈v::M)(hle:∀x∈v::M,m≤x)
  {pa2:Int→Int}(hp1:∀x∈v::M,pa2 x=m)(hp2:∀x,x∉v::M→pa2 x=pa x):TarP g G v S0 fo0 lo0 vis0 fo lo pa2 S0 vis:=by
 obtain⟨M2,e,hM⟩:=h.stk
 obtain rfl:M=M2:=by simpa using e
 obtain⟨i1,i2,i3⟩:=List.pairwise_append.1 h.inv.inc
 rw[List.pairwise_cons]at i2
 have hvN:∀x∈v::M,fo v≤fo x:=fun x hx=>by
  rcases Kd.1 hx with rfl|hx
  ·exact Int.le_refl _
  ·exact Int.le_of_lt (i2.1 x hx)
 have dj:∀x∈S0,x∉v::M:=fun x hx c=>by
  have:=i3 x hx x c
  omega
 have mem:∀x∈v::M,x∈S0++v::M:=fun x hx=>Ks _ hx
 have edge:∀x∈v::M,∀y∈g x,0≤pa y∨y∈v::M:=by
  intro x hx y hy
  have hfy:fo y≠0∧(y∈S0→lo v≤fo y):=by
   rcases Kd.1 hx with rfl|hx2
   ·exact h.dn y (hd y hy)
   ·have ng:¬(G x∨x=v):=by
     rintro(c|c)
     ·exact dj x (h.gs0 x c) hx
     ·subst c
      have:=i2.1 x hx2
      omega
    exact⟨(h.inv.blk x (mem x hx) ng).1 y hy,(hM x hx2).2 y hy⟩
  rcases(h.inv.see y).1 hfy.1 with c|c
  ·exact Or.inl c
  ·rcases Kl.1 c with c|c
   ·have a:=hfy.2 c
    have b:=i3 y c v (by simp)
    omega
   ·exact Or.inr c
 have clo:∀x,Way g v x→0≤pa x∨x∈v::M:=fun x hw=>Way.closed (P:=fun x=>0≤pa x∨x∈v::M) (fun x hx y hy=>by
  rcases hx with hx|hx
  ·exact Or.inl (h.inv.cl x hx y hy)
  ·exact edge x hx y hy) hw (Or.inr (by simp))
 have down:∀x∈v::M,Way g v x:=fun x hx=>by
  rcases Kd.1 hx with rfl|hx
  ·exact Way.here x
  ·exact(hM x hx).1
 have up:∀(n:Nat) (x:Int),(fo x).toNat =n→x∈v::M→Way g x v:=by
  intro n
  induction n using Nat.strongRecOn with
  |_ n ih=>
   intro x hn hx
   by_cases c:x=v
   ·subst c
    exact Way.here x
   ·have ng:¬(G x∨x=v):=by
     rintro(q|q)
     ·exact dj x (h.gs0 x q) hx
     ·exact c q
    obtain⟨_,y,h2,h3,h4⟩:=h.inv.blk x (mem x hx) ng
    have hy:y∈v::M:=by
     rcases clo y ((down x hx).trans h4)with q|q
     ·have:=h.inv.dis y h2
      omega
     ·exact q
    have f1:=h.inv.fr y
    have f2:=h.inv.fr x
    exact h4.trans (ih _ (by omega) y rfl hy)
 have scc1:∀x∈v::M,Scc g v x:=fun x hx=>⟨down x hx,up _ x rfl hx⟩
 have scc2:∀x,Scc g v x→x∈v::M:=fun x hs=>by
  rcases clo x hs.1 with q|q
  ·have a:0≤pa v:=Way.closed (P:=fun x=>0≤pa x) (fun x hx y hy=>h.inv.cl x hx y hy) hs.2 q
   have b:=h.inv.dis v (mem v (by simp))
   omega
  ·exact q
 have m0:0≤m:=h.inv.nn m (mem m hm)
 have isl:∀x∈v::M,IsL g x m:=fun x hx=>⟨(scc1 x hx).symm.trans (scc1 m hm),fun y hy=>hle y (scc2 y ((scc1 x hx).trans hy))⟩
 have pos:∀x,0≤pa x→0≤pa2 x:=fun x hx=>by
  by_cases c:x∈v::M
  ·rw[hp1 x c];exact m0
  ·rw[hp2 x c];exact hx
 refine⟨⟨h.inv.fr,fun x=> ?_,fun x hx=> ?_,fun x hx=>h.inv.nn x (Kb _ hx),i1,h.gs0,fun x hx y hy=> ?_,fun x hx=> ?_,fun x hx hg=> ?_⟩,h.keep,h.fv,h.vs,⟨[],by simp,(fun x hx=>by cases hx),Or.inl ⟨rfl,hl⟩⟩⟩
 ·rw[h.inv.see x,Kl]
  by_cases c:x∈v::M
  ·rw[hp1 x c]
   exact⟨fun _=>Or.inl m0,fun _=>Or.inr (Or.inr c)⟩
  ·rw[hp2 x c]
   constructor
   ·rintro(a|a|a)
    ·exact Or.inl a
    ·exact Or.inr a
    ·exact absurd a c
   ·rintro(a|a)
    ·exact Or.inl a
    ·exact Or.inr (Or.inl a)
 ·rw[hp2 x (dj x hx)]
  exact h.inv.dis x (Kb _ hx)
 ·by_cases c:x∈v::M
  ·rcases edge x c y hy with q|q
   ·exact pos y q
   ·rw[hp1 y q];exact m0
  ·rw[hp2 x c]at hx
   exact pos y (h.inv.cl x hx y hy)
 ·by_cases c:x∈v::M
  ·rw[hp1 x c]
   exact isl x c
  ·rw[hp2 x c]at hx⊢
   exact h.inv.val x hx
 ·have ng:¬(G x∨x=v):=by
   rintro(q|q)
   ·exact hg q
   ·subst q
    exact dj x hx (by simp)
  obtain⟨b1,y,b2,b3,b4⟩:=h.inv.blk x (Kb _ hx) ng
  refine⟨b1,y,?_,b3,b4⟩
  rcases Kl.1 b2 with q|q
  ·exact q
  ·have:=i3 x hx y q
   omega
theorem TarI.empty{g:Int→List Int}{fo pa:Int→Int}{st:List Int}{vis:Int}(h:TarI g (fun _=>False) fo pa st vis):st=[]:=by
 cases st with
 |nil=>rfl
 |cons a l=>
  obtain⟨_,y,h2,h3,_⟩:=h.blk a (by simp) (fun c=>c)
  have:=(List.pairwise_cons.1 h.inc).1
  rcases Kd.1 h2 with rfl|h2
  ·omega
  ·have:=this y h2
   omega
def vw(d:Int)(l:List Int):Int→Int:=fun x=>if 0≤x then l.getD x.toNat d else d
theorem Q43(d:Int)(l:List Int){x:Int}(h:0≤x):vw d l x=l.getD x.toNat d:=if_pos h
theorem Qh6(d e:Int)(l:List Int){x:Int}(h:0≤x∧x<(l.length:Int)):vw d l x=l.getD x.toNat e:=by
 have h2:x.toNat<l.length:=by omega
 rw[Q43 d l h.1]
 simp[K1,h2]
theorem Qav(d:Int)(l:List Int){x:Int}(h:x<0∨(l.length:Int)≤x):vw d l x=d:=by
 unfold vw
 by_cases c:0≤x
 ·rw[if_pos c,K1,K1l (by omega)]
  rfl
 ·rw[if_neg c]
theorem Q4u(d:Int)(l:List Int){k:Int}(v:Int)(h:0≤k∧k<(l.length:Int)):vw d (l.set k.toNat v)=updI (vw d l) k v:=by
 funext x
 by_cases c:0≤x
 ·rw[Q43 d _ c,K1,List.getElem?_set]
  by_cases e:x=k
  ·subst e
   rw[if_pos rfl,if_pos (by omega),Qg]
   rfl
  ·rw[if_neg (by omega),Qh _ _ e,Q43 d l c,K1]
 ·rw[Qav d _ (Or.inl (by omega)),Qh _ _ (by omega),Qav d l (Or.inl (by omega))]
theorem Q4t(d v:Int)(n:Nat){x:Int}(h:0≤x∧x<(n:Int)):vw d (List.replicate n v) x=v:=by
 have h2:x.toNat<n:=by omega
 rw[Q43 d _ h.1]
 simp[K1,h2]
def gOf(R:List (Bool×List Int)):Int→List Int:=fun x=>if 0≤x then(R.getD x.toNat (true,[])).2 else[]
theorem Qg2(R:List (Bool×List Int)){x:Int}(h:0≤x):gOf R x=(R.getD x.toNat (true,[])).2 :=if_pos h
def Q45(l:List Int):Nat:=l.countP fun x=>x==0
theorem Qea{l:List Int}{k:Int}{v:Int}(h:0≤k∧k<(l.length:Int))(h0:l.getD k.toNat 0=0)(hv:v≠0):Q45 (l.set k.toNat v)+1=Q45 l:=by
 have h2:k.toNat<l.length:=by omega
 have e:l.getD k.toNat 0=l[k.toNat]:=by simp[K1,h2]
 rw[e]at h0
 unfold Q45
 have hp:0<l.countP fun x=>x==0:=List.countP_pos_iff.2 ⟨l[k.toNat],K3 h2,by rw[h0];rfl⟩
 rw[List.countP_set h2,h0,if_pos (by rfl),if_neg (by simpa using hv)]
 omega
def minL:List Int→Int
 |[]=>0
 |a::l=>l.foldl (fun m x=>if x<m then x else m) a
theorem Q83(l:List Int):∀a,(l.foldl (fun m x=>if x<m then x else m) a=a∨l.foldl (fun m x=>if x<m then x else m) a∈l)∧l.foldl (fun m x=>if x<m then x else m) a≤a∧∀y∈l,l.foldl (fun m x=>if x<m then x else m) a≤y:=by
 induction l with
 |nil=>intro a;exact⟨Or.inl rfl,Int.le_refl _,fun y hy=>by cases hy⟩
 |cons b l ih=>
  intro a
  obtain⟨h1,h2,h3⟩:=ih (if b<a then b else a)
  rw[K16]
  refine⟨?_,?_,fun y hy=> ?_⟩
  ·rcases h1 with h1|h1
   ·rw[h1]
    by_cases c:b<a
    ·rw[if_pos c]
     exact Or.inr (by simp)
    ·rw[if_neg c]
     exact Or.inl rfl
   ·exact Or.inr (K9 _ h1)
  ·refine Int.le_trans h2 ?_
   split<;>omega
  ·rcases Kd.1 hy with rfl|hy
   ·refine Int.le_trans h2 ?_
    split<;>omega
   ·exact h3 y hy
theorem Qdd{l:List Int}(h:l≠[]):minL l∈l∧∀y∈l,minL l≤y:=by
 cases l with
 |nil=>exact absurd rfl h
 |cons a l=>
  obtain⟨h1,h2,h3⟩:=Q83 l a
  refine⟨?_,fun y hy=> ?_⟩
  ·show l.foldl (fun m x=>if x<m then x else m) a∈a::l
   rcases h1 with h1|h1
   ·rw[h1]
    exact Kk
   ·exact K9 _ h1
  ·rcases Kd.1 hy with rfl|hy
   ·exact h2
   ·exact h3 y hy
theorem Qhu(x:Bool×List Int)(hx:x.2.length≤1048576)(d:Nat):∀(i:Nat) (m:Int),i+d=x.2.length→F7a x m (i:Int)=some ((x.2.drop i).foldl (fun m x=>if x<m then x else m) m):=by
 induction d with
 |zero=>
  intro i m hi
  rw[F7aE,gF (by omega),K8 (by omega)]
  rfl
 |succ d ih=>
  intro i m hi
  have hlt:i<x.2.length:=by omega
  rw[F7aE,gT (by omega),gT (by omega),gT (by omega),J2 x.2 _ i hlt,up1 i (by omega),J1,ih (i+1) _ (by omega),K2 hlt,K16]
  by_cases c:x.2[i]<m
  ·rw[gT c,if_pos c]
  ·rw[gF c,if_neg c]
theorem Qht(b:Bool)(l:List Int)(h:l≠[])(hl:l.length≤1048576):F36 (b,l)=some (minL l):=by
 cases l with
 |nil=>exact absurd rfl h
 |cons a l=>
  have e:=Qhu (b,a::l) hl l.length 1 a (by simp;omega)
  rw[F36E,gF (by simp only[Kp];omega),gT (by simp only[Kp];omega)]
  have e':F7a (b,a::l) ((a::l).getD 0 0) 1=_:=e
  rw[e',J0]
  rfl
structure TRow (m:Nat) (fo lo pa st:List Int) (vis:Int):Prop where
 l1:fo.length=m
 l2:lo.length=m
 l3:pa.length=m
 l4:(st.length:Int)≤vis
 l5:∀x∈st,0≤x∧x<(m:Int)
 l6:vis+(Q45 fo:Int)≤(m:Int)
theorem Qi1(m:Nat)(t0:Bool×List (Bool×List Int))(fo lo:Bool×List Int)(bp bs:Bool)(st:List Int)(vis:Int)(k:Nat)(k_ least:Int)(hk:k≤st.length)(hst:st.length≤100000)(hin:∀x∈st,0≤x∧x<(m:Int))(d:Nat):∀(i:Nat) (pa:List Int),i+d=st.length-k→pa.length=m→
  ∃pa2:List Int,pa2.length=m∧(∀x∈st.drop (k+i),vw (-1) pa2 x=least)∧(∀x,x∉st.drop (k+i)→vw (-1) pa2 x=vw (-1) pa x)∧
   F7g t0 fo lo (bp,pa) (bs,st) vis k_ least (k:Int) (st.length:Int) ((st.length-k:Nat):Int) (i:Int)=some (t0,(fo,(lo,((bp,pa2),((bs,st),vis))))):=by
 induction d with
 |zero=>
  intro i pa hi hp
  refine⟨pa,hp,fun x hx=> ?_,fun x _=>rfl,by rw[F7gE,gF (by first|omega|(simp only;omega))]⟩
  rw[K8 (by omega)]at hx
  cases hx
 |succ d ih=>
  intro i pa hi hp
  have hlt:k+i<st.length:=by omega
  have hx:=hin _ (K3 hlt)
  obtain⟨pa2,h1,h2,h3,h4⟩:=ih (i+1) (pa.set (Int.toNat st[k+i]) least) (by omega) (by rw[Ko];exact hp)
  have e:st.getD (k+i) 0=st[k+i]:=by simp[K1,hlt]
  refine⟨pa2,h1,fun x hx2=> ?_,fun x hx2=> ?_,?_⟩
  ·rw[K2 hlt]at hx2
   by_cases c:x∈st.drop (k+(i+1))
   ·exact h2 x c
   ·rw[h3 x c,Q4u (-1) pa least (by omega)]
    rcases Kd.1 hx2 with rfl|hx2
    ·exact Qg _ _ _
    ·exact absurd hx2 c
  ·rw[K2 hlt]at hx2
   have n1:¬x=st[k+i]:=fun q=>hx2 (by rw[q];exact Kk)
   have n2:x∉st.drop (k+(i+1)):=fun q=>hx2 (K9 _ q)
   rw[h3 x n2,Q4u (-1) pa least (by omega),Qh _ _ n1]
  ·rw[F7gE,gT (by first|omega|(simp only;omega)),gT (by first|omega|(simp only;omega)),gT (by simp only[K5];omega)]
   simp only[K5,e]
   rw[gT hx.1,gT (by first|omega|(simp only;omega)),up1 i (by omega),J1]
   exact h4
theorem Q9h{A B:List Int}{v:Int}(h:v∉A):((A++v::B).any fun x=>v==x)=true∧(A++v::B).findIdx (fun x=>v==x)=A.length:=by
 constructor
 ·rw[Kw]
  exact⟨v,by simp,by simp⟩
 ·induction A with
  |nil=>simp[List.findIdx_cons]
  |cons a A ih=>
   have n:¬v=a:=fun q=>h (by rw[q];exact Kk)
   have e:(v==a)=false:=by simpa using n
   rw[List.cons_append,List.findIdx_cons,e,cond_false,ih (fun q=>h (K9 _ q)),Kp]
def Qc6(m:Nat)(R:List (Bool×List Int))(nb:Bool)(N:Nat):Prop:=
 ∀(G:Int→Prop) (fo lo pa st:List Int) (vis v:Int) (b1 b2 b3 b4:Bool),TRow m fo lo pa st vis→TarI (gOf R) G (vw 0 fo) (vw (-1) pa) st vis→0≤v∧v<(m:Int)→vw 0 fo v=0→Q45 fo≤N→
  ∃(fo2 lo2 pa2 st2:List Int) (vis2:Int) (c4:Bool),Fu (nb,R) (b1,fo) (b2,lo) (b3,pa) (b4,st) vis v=some ((nb,R),((b1,fo2),((b2,lo2),((b3,pa2),((c4,st2),vis2)))))∧
   TRow m fo2 lo2 pa2 st2 vis2∧TarP (gOf R) G v st (vw 0 fo) (vw 0 lo) vis (vw 0 fo2) (vw 0 lo2) (vw (-1) pa2) st2 vis2∧Q45 fo2≤Q45 fo
theorem Qi0{m:Nat}{R:List (Bool×List Int)}(hm:m≤100000)(nb:Bool){N:Nat}(ih:Qc6 m R nb N)(hin:∀x,∀y∈gOf R x,0≤y∧y<(m:Int)){G:Int→Prop}{v:Int}{S0:List Int}{fo0 lo0:Int→Int}{vis0:Int}(hv:0≤v∧v<(m:Int))(hv0:fo0 v=0)(r:Bool×List Int)(hr:r.2=gOf R v)(hrl:r.2.length≤20000000)(b1 b2 b3:Bool)(d:Nat):
  ∀(i:Nat) (fo lo pa st done:List Int) (vis:Int) (b4:Bool),i+d=r.2.length→TRow m fo lo pa st vis→TarL (gOf R) G v S0 fo0 lo0 vis0 (vw 0 fo) (vw 0 lo) (vw (-1) pa) st vis done→(∀y∈r.2.take i,y∈done)→Q45 fo≤N→
   ∃(fo2 lo2 pa2 st2 done2:List Int) (vis2:Int) (c4:Bool),F4p (nb,R) (b1,fo) (b2,lo) (b3,pa) (b4,st) vis v r (r.2.length:Int) (i:Int)=some ((nb,R),((b1,fo2),((b2,lo2),((b3,pa2),((c4,st2),vis2)))))∧
    TRow m fo2 lo2 pa2 st2 vis2∧TarL (gOf R) G v S0 fo0 lo0 vis0 (vw 0 fo2) (vw 0 lo2) (vw (-1) pa2) st2 vis2 done2∧(∀y∈r.2,y∈done2)∧Q45 fo2≤Q45 fo:=by
 induction d with
 |zero=>
  intro i fo lo pa st done vis b4 hi hR hL hd hN
  rw[K1i (by omega)]at hd
  exact⟨fo,lo,pa,st,done,vis,b4,by rw[F4pE,gF (by first|omega|(simp only;omega))],hR,hL,hd,Ky _⟩
 |succ d ihd=>
  intro i fo lo pa st done vis b4 hi hR hL hd hN
  have hlt:i<r.2.length:=by omega
  have hwg:r.2[i]∈gOf R v:=by rw[←hr];exact K3 hlt
  have hw:=hin v _ hwg
  have hl1:=hR.l1
  have hl2:=hR.l2
  have hl3:=hR.l3
  have hnext:∀done2:List Int,(∀y∈done,y∈done2)→r.2[i]∈done2→∀y∈r.2.take (i+1),y∈done2:=by
   intro done2 h1 h2 y hy
   rw[K1b hlt]at hy
   rcases Kl.1 hy with hy|hy
   ·exact h1 y (hd y hy)
   ·rw[Km]at hy
    rw[hy]
    exact h2
  rw[F4pE,gT (by first|omega|(simp only;omega)),gT (by first|omega|(simp only;omega)),gT (by first|omega|(simp only;omega)),J2 r.2 _ i hlt,gT hw.1,gT (by first|omega|(simp only;omega)),up1 i (by omega)]
  simp only
  have ef:vw 0 fo r.2[i]=fo.getD (Int.toNat r.2[i]) 0:=Q43 0 fo hw.1
  by_cases c:vw 0 fo r.2[i]=0
  ·rw[bT (by rw[beq_iff_eq,←ef];exact c)]
   obtain⟨fo2,lo2,pa2,st2,vis2,c4,e1,hR2,hP,hz⟩:=ih (fun x=>G x∨x=v) fo lo pa st vis r.2[i] b1 b2 b3 b4 hR hL.inv hw c hN
   have hk1:=hR2.l1
   have hk2:=hR2.l2
   have e2:vw 0 lo2 v=lo2.getD v.toNat 0:=Q43 0 lo2 hv.1
   have e3:vw 0 lo2 r.2[i]=lo2.getD (Int.toNat r.2[i]) 0:=Q43 0 lo2 hw.1
   have hL2:=hL.call hwg c hv0 hP
   have em:(bif decide (lo2.getD (Int.toNat r.2[i]) 0<lo2.getD v.toNat 0)then lo2.getD (Int.toNat r.2[i]) 0 else lo2.getD v.toNat 0)=min (vw 0 lo2 v) (vw 0 lo2 r.2[i]):=by
    rw[e2,e3]
    by_cases q:lo2.getD (Int.toNat r.2[i]) 0<lo2.getD v.toNat 0
    ·rw[gT q];omega
    ·rw[gF q];omega
   rw[←Q4u 0 lo2 _ (by omega)]at hL2
   obtain⟨fo3,lo3,pa3,st3,done3,vis3,c5,g1,g2,g3,g4,g5⟩:=ihd (i+1) fo2 _ pa2 st2 _ vis2 c4 (by omega) ⟨hR2.l1,by rw[Ko];exact hR2.l2,hR2.l3,hR2.l4,hR2.l5,hR2.l6⟩ hL2 (hnext _ (fun y hy=>K9 _ hy) Kk) (by omega)
   refine⟨fo3,lo3,pa3,st3,done3,vis3,c5,?_,g2,g3,g4,by omega⟩
   simp only[e1,J0,em]
   rw[gT hv.1,gT (by first|omega|(simp only;omega)),gT hw.1,gT (by first|omega|(simp only;omega)),gT hv.1,gT (by first|omega|(simp only;omega)),J1]
   exact g1
  ·rw[bF (by rw[beq_eq_false_iff_ne,←ef];exact c),gT hw.1,gT (by first|omega|(simp only;omega))]
   have ep:vw (-1) pa r.2[i]=pa.getD (Int.toNat r.2[i]) 0:=Qh6 (-1) 0 pa (by omega)
   by_cases cp:vw (-1) pa r.2[i]<0
   ·have e2:vw 0 lo v=lo.getD v.toNat 0:=Q43 0 lo hv.1
    have hL2:=hL.seen hwg c cp hv0
    have em:(bif decide (fo.getD (Int.toNat r.2[i]) 0<lo.getD v.toNat 0)then fo.getD (Int.toNat r.2[i]) 0 else lo.getD v.toNat 0)=min (vw 0 lo v) (vw 0 fo r.2[i]):=by
     rw[e2,ef]
     by_cases q:fo.getD (Int.toNat r.2[i]) 0<lo.getD v.toNat 0
     ·rw[gT q];omega
     ·rw[gF q];omega
    rw[←Q4u 0 lo _ (by omega)]at hL2
    obtain⟨fo3,lo3,pa3,st3,done3,vis3,c5,g1,g2,g3,g4,g5⟩:=ihd (i+1) fo _ pa st _ vis b4 (by omega) ⟨hR.l1,by rw[Ko];exact hR.l2,hR.l3,hR.l4,hR.l5,hR.l6⟩ hL2 (hnext _ (fun y hy=>K9 _ hy) Kk) hN
    refine⟨fo3,lo3,pa3,st3,done3,vis3,c5,?_,g2,g3,g4,g5⟩
    rw[gT (by rw[←ep];exact cp),gT hv.1,gT (by first|omega|(simp only;omega)),gT hw.1,gT (by first|omega|(simp only;omega)),gT hv.1,gT (by first|omega|(simp only;omega)),J1,em]
    exact g1
   ·have hL2:=hL.skip (w:=r.2[i]) (by omega)
    obtain⟨fo3,lo3,pa3,st3,done3,vis3,c5,g1,g2,g3,g4,g5⟩:=ihd (i+1) fo lo pa st _ vis b4 (by omega) hR hL2 (hnext _ (fun y hy=>K9 _ hy) Kk) hN
    refine⟨fo3,lo3,pa3,st3,done3,vis3,c5,?_,g2,g3,g4,g5⟩
    rw[gF (by rw[←ep];exact cp),J1]
    exact g1
theorem Qdv{m:Nat}{R:List (Bool×List Int)}(hm:m≤100000)(hlen:R.length=m)(nb:Bool)(hin:∀x,∀y∈gOf R x,0≤y∧y<(m:Int))(hrl:∀x,(gOf R x).length ≤20000000)(N:Nat):Qc6 m R nb N:=by
 have hlim:=J5
 induction N with
 |zero=>
  intro G fo lo pa st vis v b1 b2 b3 b4 hR hI hv h0 hN
  exfalso
  have hl1:=hR.l1
  have h2:v.toNat<fo.length:=by omega
  have e:vw 0 fo v=fo[v.toNat]:=by rw[Q43 0 fo hv.1];simp[K1,h2]
  have hp:0<fo.countP fun x=>x==0:=List.countP_pos_iff.2 ⟨fo[v.toNat],K3 h2,by rw[←e,h0];rfl⟩
  unfold Q45 at hN
  omega
 |succ N ih=>
  intro G fo lo pa st vis v b1 b2 b3 b4 hR hI hv h0 hN
  have hl1:=hR.l1
  have hl2:=hR.l2
  have hl3:=hR.l3
  have hl4:=hR.l4
  have hl6:=hR.l6
  have hvr:=hI.fr v
  have hz:=Qea (l:=fo) (k:=v) (v:=vis+1) (by omega) (by rw[←Q43 0 fo hv.1];exact h0) (by omega)
  have hew:IntKind.i64.wrap (vis+1)=vis+1:=wr (by omega)
  have hL:=TarL.start (lo:=vw 0 lo) hI h0 hv.1
  rw[←Q4u 0 fo _ (by omega),←Q4u 0 lo _ (by omega)]at hL
  have hR1:TRow m (fo.set v.toNat (vis+1)) (lo.set v.toNat (vis+1)) pa (st++[v]) (vis+1):=by
   refine⟨by rw[Ko];exact hl1,by rw[Ko];exact hl2,hl3,by simp;omega,fun x hx=> ?_,by omega⟩
   rcases Kl.1 hx with hx|hx
   ·exact hR.l5 x hx
   ·rw[Km]at hx
    rw[hx]
    exact hv
  have hrow:(R.getD v.toNat (true,[])).2 =gOf R v:=(Qg2 R hv.1).symm
  obtain⟨fo2,lo2,pa2,st2,done2,vis2,c4,e1,hR2,hL2,hd2,hz2⟩:=Qi0 hm nb ih hin hv h0 (R.getD v.toNat (true,[])) hrow (by rw[hrow];exact hrl v) b1 b2 b3 (R.getD v.toNat (true,[])).2.length 0 _ _ pa (st++[v]) [] (vis+1) (b4&&false) (by omega) hR1 hL (by simp) (by omega)
  have e1':F4p (nb,R) (b1,fo.set v.toNat (vis+1)) (b2,lo.set v.toNat (vis+1)) (b3,pa) (b4&&false,st++[v]) (vis+1) v (R.getD v.toNat (true,[])) ((R.getD v.toNat (true,[])).2.length :Int) 0=_:=e1
  have hd3:∀y∈gOf R v,y∈done2:=by rw[←hrow];exact hd2
  have hk1:=hR2.l1
  have hk2:=hR2.l2
  have hk4:=hR2.l4
  have hk6:=hR2.l6
  have ea:vw 0 lo2 v=lo2.getD v.toNat 0:=Q43 0 lo2 hv.1
  have eb:vw 0 fo2 v=fo2.getD v.toNat 0:=Q43 0 fo2 hv.1
  rw[FuE]
  simp only[hew]
  rw[gT hv.1,gT (by first|omega|(simp only;omega)),gT hv.1,gT (by first|omega|(simp only;omega)),gT (by simp;omega),gT hv.1,gT (by first|omega|(simp only;omega))]
  simp only[e1',J0]
  rw[gT hv.1,gT (by first|omega|(simp only;omega)),gT hv.1,gT (by first|omega|(simp only;omega))]
  by_cases c:vw 0 lo2 v<vw 0 fo2 v
  ·rw[gT (by rw[←ea,←eb];exact c)]
   exact⟨fo2,lo2,pa2,st2,vis2,c4,rfl,hR2,hL2.stay hd3 c,by omega⟩
  ·rw[gF (by rw[←ea,←eb];exact c)]
   obtain⟨M,est,hM⟩:=hL2.stk
   have hinc:=(List.pairwise_append.1 (by rw[←est];exact hL2.inv.inc:(st++v::M).Pairwise fun a b=>vw 0 fo2 a<vw 0 fo2 b)).2.2
   have hns:v∉st:=fun q=>by
    have:=hinc v q v (by simp)
    omega
   obtain⟨i1,i2⟩:=Q9h (B:=M) hns
   have hsl:st2.length≤100000:=by omega
   have ei:=Q7b (c4,st2) v (by simp only;omega)
   simp only at ei
   rw[est,i1,i2,cond_true]at ei
   have hdrop:(st++v::M).drop st.length=v::M:=by rw[List.drop_left]
   have htake:(st++v::M).take st.length=st:=by rw[List.take_left]
   have hne:v::M≠[]:=by simp
   obtain⟨m1,m2⟩:=Qdd hne
   have hlenst:(st++v::M).length =st2.length:=by rw[est]
   have hmin:=Qht c4 (v::M) hne (by rw[←hdrop,List.length_drop];omega)
   obtain⟨pa3,p1,p2,p3,p4⟩:=Qi1 m (nb,R) (b1,fo2) (b2,lo2) b3 c4 (st++v::M) vis2 st.length (st.length:Int) (minL (v::M)) (by simp) (by omega) (by rw[←est];exact hR2.l5) ((st++v::M).length -st.length) 0 pa2 (by omega) hR2.l3
   rw[K2c,hdrop]at p2 p3
   have p4':F7g (nb,R) (b1,fo2) (b2,lo2) (b3,pa2) (c4,st++v::M) vis2 (st.length:Int) (minL (v::M)) (st.length:Int) ((st++v::M).length :Int) (((st++v::M).length -st.length:Nat):Int) 0=_:=p4
   subst est
   have hP:=hL2.pop hd3 (by omega) m1 m2 p2 p3
   simp only[ei,J0,K5,List.take_length,hdrop,hmin,p4',htake,Kf]
   have hle:(st.length:Int)≤((st++v::M).length :Int):=by rw[Kg];omega
   have h00:(0:Int)≤(st.length:Int):=by omega
   rw[gT h00,gT hle,gT h00,gT hle,gT h00,gT hle]
   refine⟨fo2,lo2,pa3,st,vis2,c4,rfl,⟨hk1,hk2,p1,?_,hR.l5,hk6⟩,hP,by omega⟩
   simp only[Kg,Kp]at hk4
   omega
theorem Q8w{m:Nat}{R:List (Bool×List Int)}(hm:m≤100000)(hlen:R.length=m)(nb:Bool)(hin:∀x,∀y∈gOf R x,0≤y∧y<(m:Int))(hrl:∀x,(gOf R x).length ≤20000000)(b1 b2 b3:Bool)(d:Nat):∀(i:Nat) (fo lo pa:List Int) (vis:Int) (b4:Bool),i+d=m→TRow m fo lo pa [] vis→TarI (gOf R) (fun _=>False) (vw 0 fo) (vw (-1) pa) [] vis→(∀x,0≤x∧x<(i:Int)→vw 0 fo x≠0)→
  ∃(fo2 lo2 pa2:List Int) (vis2:Int) (c4:Bool),F6c (nb,R) (b1,fo) (b2,lo) (b3,pa) (b4,[]) vis (m:Int) (i:Int)=some ((nb,R),((b1,fo2),((b2,lo2),((b3,pa2),((c4,[]),vis2)))))∧pa2.length=m∧∀x,0≤x∧x<(m:Int)→IsL (gOf R) x (vw (-1) pa2 x):=by
 induction d with
 |zero=>
  intro i fo lo pa vis b4 hi hR hI hs
  obtain rfl:i=m:=by omega
  refine⟨fo,lo,pa,vis,b4,by rw[F6cE,gF (by first|omega|(simp only;omega))],hR.l3,fun x hx=> ?_⟩
  rcases(hI.see x).1 (hs x hx)with q|q
  ·exact hI.val x q
  ·cases q
 |succ d ih=>
  intro i fo lo pa vis b4 hi hR hI hs
  have hl1:=hR.l1
  have ef:vw 0 fo (i:Int)=fo.getD i 0:=Q43 0 fo (by omega)
  rw[F6cE,gT (by first|omega|(simp only;omega)),gT (by first|omega|(simp only;omega)),gT (by simp only;omega),K5,up1 i (by omega)]
  simp only
  by_cases c:vw 0 fo (i:Int)=0
  ·rw[bT (by rw[beq_iff_eq,←ef];exact c)]
   obtain⟨fo2,lo2,pa2,st2,vis2,c4,e1,hR2,hP,hz⟩:=Qdv hm hlen nb hin hrl (Q45 fo) (fun _=>False) fo lo pa [] vis (i:Int) b1 b2 b3 b4 hR hI (by omega) c (Ky _)
   have hst:=hP.inv.empty
   subst hst
   obtain⟨fo3,lo3,pa3,vis3,c5,g1,g2,g3⟩:=ih (i+1) fo2 lo2 pa2 vis2 c4 (by omega) hR2 hP.inv (fun x hx=>by
    by_cases q:x=(i:Int)
    ·rw[q]
     have:=hP.fv
     have:=hI.fr (i:Int)
     omega
    ·rw[(hP.keep x (hs x (by omega))).1]
     exact hs x (by omega))
   refine⟨fo3,lo3,pa3,vis3,c5,?_,g2,g3⟩
   simp only[e1,J0]
   rw[J1]
   exact g1
  ·rw[bF (by rw[beq_eq_false_iff_ne,←ef];exact c),J1]
   exact ih (i+1) fo lo pa vis b4 (by omega) hR hI (fun x hx=>by
    by_cases q:x=(i:Int)
    ·rw[q];exact c
    ·exact hs x (by omega))
theorem Qcq(m:Nat)(a:Int):(List.replicate m [a]).flatten =List.replicate m a:=by
 induction m with
 |zero=>rfl
 |succ m ih=>rw[List.replicate_succ,List.replicate_succ,List.flatten_cons,ih];rfl
theorem Q66(m:Nat):Q45 (List.replicate m 0)=m:=by
 unfold Q45
 rw[List.countP_replicate]
 rfl
theorem Qdu{m:Nat}{R:List (Bool×List Int)}(h1:1≤m)(hm:m≤10000)(hlen:R.length=m)(nb:Bool)(hin:∀x,∀y∈gOf R x,0≤y∧y<(m:Int))(hrl:∀x,(gOf R x).length ≤20000000):
  ∃b P,F26 (nb,R)=some (b,P)∧P.length=m∧∀x,0≤x∧x<(m:Int)→IsL (gOf R) x (vw (-1) P x):=by
 have hlim:=J5
 have hf:∀x,vw 0 (List.replicate m 0) x=0:=fun x=>by
  by_cases c:0≤x∧x<(m:Int)
  ·exact Q4t 0 0 m c
  ·exact Qav 0 _ (by rw[K1n];omega)
 have hp:∀x,vw (-1) (List.replicate m (-1)) x= -1:=fun x=>by
  by_cases c:0≤x∧x<(m:Int)
  ·exact Q4t (-1) (-1) m c
  ·exact Qav (-1) _ (by rw[K1n];omega)
 have hR:TRow m (List.replicate m 0) (List.replicate m 0) (List.replicate m (-1)) [] 0:=⟨by simp,by simp,by simp,by simp,fun x hx=>(by cases hx),by rw[Q66];omega⟩
 have hI:TarI (gOf R) (fun _=>False) (vw 0 (List.replicate m 0)) (vw (-1) (List.replicate m (-1))) [] 0:=by
  refine⟨fun x=> ?_,fun x=> ?_,fun x hx=>(by cases hx),fun x hx=>(by cases hx),List.Pairwise.nil,fun x hx=>hx.elim,fun x hx=> ?_,fun x hx=> ?_,fun x hx=>(by cases hx)⟩
  ·rw[hf];omega
  ·rw[hf,hp]
   constructor
   ·intro q;exact absurd rfl q
   ·rintro(q|q)
    ·omega
    ·cases q
  ·rw[hp]at hx;omega
  ·rw[hp]at hx;omega
 obtain⟨fo2,lo2,pa2,vis2,c4,e1,e2,e3⟩:=Q8w (by omega) hlen nb hin hrl false false false m 0 _ _ _ 0 true (by omega) hR hI (fun x hx=>by omega)
 have e1':F6c (nb,R) (false,List.replicate m 0) (false,List.replicate m 0) (false,List.replicate m (-1)) (true,[]) 0 (m:Int) 0=_:=e1
 have er:=Q4f (false,[-1]) m (by simp) (by simp) h1 hm
 simp only[Qcq]at er
 refine⟨false,pa2,?_,e2,e3⟩
 rw[F26E]
 simp only[hlen,K5,er,J0,e1']
 rw[gT (by omega),gT (by omega),gT (by omega),gT (by omega),gT (by omega),gT (by omega),gT (by omega),gT (by omega)]
def sB(S:List Bool):Int→Prop:=fun x=>0≤x∧S.getD x.toNat false=true
theorem Qdm(S:List Bool){k:Int}(h:0≤k∧k<(S.length:Int)):sB (S.set k.toNat true)=fun x=>sB S x∨x=k:=by
 funext x
 apply propext
 unfold sB
 constructor
 ·rintro⟨h1,h2⟩
  by_cases e:x=k
  ·exact Or.inr e
  ·refine Or.inl ⟨h1,?_⟩
   rw[K1,List.getElem?_set_ne (by omega),←K1]at h2
   exact h2
 ·rintro(⟨h1,h2⟩|rfl)
  ·refine⟨h1,?_⟩
   by_cases e:x=k
   ·subst e
    rw[K1,List.getElem?_set_self (by omega)]
    rfl
   ·rw[K1,List.getElem?_set_ne (by omega),←K1]
    exact h2
  ·refine⟨h.1,?_⟩
   rw[K1,List.getElem?_set_self (by omega)]
   rfl
def Qx(S:List Bool):Nat:=S.countP fun x=> !x
theorem Q6h{S:List Bool}{k:Int}(h:0≤k∧k<(S.length:Int))(h0:S.getD k.toNat false=false):Qx (S.set k.toNat true)+1=Qx S:=by
 have h2:k.toNat<S.length:=by omega
 have e:S.getD k.toNat false=S[k.toNat]:=by simp[K1,h2]
 rw[e]at h0
 unfold Qx
 have hp:0<S.countP fun x=> !x :=List.countP_pos_iff.2 ⟨S[k.toNat],K3 h2,by rw[h0];rfl⟩
 rw[List.countP_set h2,h0,if_pos (by rfl),if_neg (by simp)]
 omega
structure WalkI (g:Int→List Int) (Al:Int→Prop) (I:(Int→Prop)→(Int→Prop)→List Int→Prop):Prop where
 al:∀x,Al x→∀y∈g x,Al y
 sub:∀G s o x,I G s o→G x→s x
 enter:∀G s o k,I G s o→¬s k→Al k→I (fun x=>G x∨x=k) (fun x=>s x∨x=k) o
 leave:∀G s o k,I (fun x=>G x∨x=k) s o→¬G k→(∀y∈g k,s y)→(∀x,G x→Way g x k)→I G s (o++[k])
def Qg0(m:Nat)(R:List (Bool×List Int))(nb:Bool)(Al:Int→Prop)(I:(Int→Prop)→(Int→Prop)→List Int→Prop)(N:Nat):Prop:=
 ∀(G:Int→Prop) (S:List Bool) (O:List Int) (k:Int) (bs bo:Bool),S.length=m→I G (sB S) O→0≤k∧k<(m:Int)→Al k→(∀x,G x→Way (gOf R) x k)→Qx S≤N→O.length+Qx S≤1000000→
  ∃S2 O2 bo2,F1z (nb,R) (bs,S) (bo,O) k=some ((nb,R),((bs,S2),(bo2,O2)))∧S2.length=m∧I G (sB S2) O2∧sB S2 k∧(∀x,sB S x→sB S2 x)∧Qx S2≤Qx S∧O2.length+Qx S2≤O.length+Qx S
theorem Qh7{m:Nat}{R:List (Bool×List Int)}(nb:Bool){Al:Int→Prop}{I:(Int→Prop)→(Int→Prop)→List Int→Prop}{N:Nat}(ih:Qg0 m R nb Al I N)(hin:∀x,∀y∈gOf R x,0≤y∧y<(m:Int))(W:WalkI (gOf R) Al I){G:Int→Prop}{k:Int}(hk:Al k)(hG:∀x,G x∨x=k→Way (gOf R) x k)(r:Bool×List Int)(hr:r.2=gOf R k)(hrl:r.2.length≤20000000)(bs:Bool)(d:Nat):
  ∀(i:Nat) (S:List Bool) (O:List Int) (bo:Bool),i+d=r.2.length→S.length=m→I (fun x=>G x∨x=k) (sB S) O→(∀y∈r.2.take i,sB S y)→Qx S≤N→O.length+Qx S≤1000000→
   ∃S2 O2 bo2,F7t (nb,R) (bs,S) (bo,O) k r (r.2.length:Int) (i:Int)=some ((nb,R),((bs,S2),(bo2,O2)))∧S2.length=m∧I (fun x=>G x∨x=k) (sB S2) O2∧(∀y∈r.2,sB S2 y)∧(∀x,sB S x→sB S2 x)∧Qx S2≤Qx S∧O2.length+Qx S2≤O.length+Qx S:=by
 induction d with
 |zero=>
  intro i S O bo hi hS hI hd hN hO
  rw[K1i (by omega)]at hd
  exact⟨S,O,bo,by rw[F7tE,gF (by omega)],hS,hI,hd,fun x h=>h,Ky _,Ky _⟩
 |succ d ihd=>
  intro i S O bo hi hS hI hd hN hO
  have hlt:i<r.2.length:=by omega
  have hwg:r.2[i]∈gOf R k:=by rw[←hr];exact K3 hlt
  obtain⟨S2,O2,bo2,e1,e2,e3,e4,e5,e6,e7⟩:=ih (fun x=>G x∨x=k) S O r.2[i] bs bo hS hI (hin k _ hwg) (W.al k hk _ hwg) (fun x hx=>(hG x hx).snoc hwg) hN hO
  obtain⟨S3,O3,bo3,g1,g2,g3,g4,g5,g6,g7⟩:=ihd (i+1) S2 O2 bo2 (by omega) e2 e3 (fun y hy=>by
   rw[K1b hlt]at hy
   rcases Kl.1 hy with hy|hy
   ·exact e5 y (hd y hy)
   ·rw[Km]at hy
    rw[hy]
    exact e4) (by omega) (by omega)
  refine⟨S3,O3,bo3,?_,g2,g3,g4,fun x hx=>g5 x (e5 x hx),by omega,by omega⟩
  rw[F7tE,gT (by omega),gT (by omega),gT (by omega),J2 r.2 _ i hlt,up1 i (by omega)]
  simp only[e1,J0]
  rw[J1]
  exact g1
theorem Qe6{m:Nat}{R:List (Bool×List Int)}(hlen:R.length=m)(nb:Bool){Al:Int→Prop}{I:(Int→Prop)→(Int→Prop)→List Int→Prop}(hin:∀x,∀y∈gOf R x,0≤y∧y<(m:Int))(hrl:∀x,(gOf R x).length ≤20000000)(W:WalkI (gOf R) Al I)(N:Nat):Qg0 m R nb Al I N:=by
 have hlim:=J5
 have seen:∀(N:Nat) (G:Int→Prop) (S:List Bool) (O:List Int) (k:Int) (bs bo:Bool),S.length=m→I G (sB S) O→0≤k∧k<(m:Int)→S.getD k.toNat false=true→
   ∃S2 O2 bo2,F1z (nb,R) (bs,S) (bo,O) k=some ((nb,R),((bs,S2),(bo2,O2)))∧S2.length=m∧I G (sB S2) O2∧sB S2 k∧(∀x,sB S x→sB S2 x)∧Qx S2≤Qx S∧O2.length+Qx S2≤O.length+Qx S:=by
  intro N G S O k bs bo hS hI hk h
  refine⟨S,O,bo,?_,hS,hI,⟨hk.1,h⟩,fun x h=>h,Ky _,Ky _⟩
  rw[F1zE,gT hk.1,gT (by simp only;omega),bT h]
 induction N with
 |zero=>
  intro G S O k bs bo hS hI hk hal hG hN hO
  cases h:S.getD k.toNat false with
  |true=>exact seen 0 G S O k bs bo hS hI hk h
  |false=>
   have:=Q6h (k:=k) (by omega) h
   omega
 |succ N ih=>
  intro G S O k bs bo hS hI hk hal hG hN hO
  cases h:S.getD k.toNat false with
  |true=>exact seen 0 G S O k bs bo hS hI hk h
  |false=>
   have hf:=Q6h (S:=S) (k:=k) (by omega) h
   have hns:¬sB S k:=fun q=>by
    have:=q.2
    rw[h]at this
    cases this
   have hng:¬G k:=fun q=>hns (W.sub _ _ _ _ hI q)
   have hI2:=W.enter G (sB S) O k hI hns hal
   rw[←Qdm S (by omega)]at hI2
   have hrow:(R.getD k.toNat (true,[])).2 =gOf R k:=(Qg2 R hk.1).symm
   obtain⟨S2,O2,bo2,e1,e2,e3,e4,e5,e6,e7⟩:=Qh7 nb ih hin W hal (G:=G) (fun x hx=>by
    rcases hx with hx|hx
    ·exact hG x hx
    ·rw[hx];exact Way.here k) (R.getD k.toNat (true,[])) hrow (by rw[hrow];exact hrl k) bs (R.getD k.toNat (true,[])).2.length 0 (S.set k.toNat true) O bo (by omega) (by rw[Ko];exact hS) hI2 (by simp) (by omega) (by omega)
   have e1':F7t (nb,R) (bs,S.set k.toNat true) (bo,O) k (R.getD k.toNat (true,[])) ((R.getD k.toNat (true,[])).2.length :Int) 0=_:=e1
   have hk1:sB (S.set k.toNat true) k:=by rw[Qdm S (by omega)];exact Or.inr rfl
   refine⟨S2,O2++[k],bo2&&false,?_,e2,W.leave G (sB S2) O2 k e3 hng (fun y hy=>e4 y (by rw[hrow];exact hy)) hG,e5 k hk1,fun x hx=>e5 x (by rw[Qdm S (by omega)];exact Or.inl hx),by omega,by simp;omega⟩
   rw[F1zE,gT hk.1,gT (by simp only;omega),bF h,gT hk.1,gT (by simp only;omega),gT hk.1,gT (by simp only;omega)]
   simp only[e1',J0]
   rw[gT (by simp;omega)]
theorem Q4y(m:Nat):Qx (List.replicate m false)=m:=by
 unfold Qx
 rw[List.countP_replicate]
 rfl
theorem Q9z(m:Nat)(x:Int):¬sB (List.replicate m false) x:=by
 rintro⟨h1,h2⟩
 rw[K1,K1z]at h2
 split at h2<;>cases h2
theorem Qhl{m:Nat}{R:List (Bool×List Int)}(hm:m≤10000)(hlen:R.length=m)(nb:Bool)(hin:∀x,∀y∈gOf R x,0≤y∧y<(m:Int))(hrl:∀x,(gOf R x).length ≤20000000)(nx:Bool×List (Bool×List Int))(bs:Bool)(d:Nat):
  ∀(i:Nat) (S:List Bool) (O:List Int) (bo:Bool),i+d=m→S.length=m→FinI (gOf R) (fun _=>False) (sB S) O→(∀x,0≤x∧x<(i:Int)→sB S x)→O.length+Qx S≤m→
   ∃S2 O2 bo2,F7o nx (nb,R) (bs,S) (bo,O) (m:Int) (i:Int)=some ((nb,R),((bs,S2),(bo2,O2)))∧FinI (gOf R) (fun _=>False) (sB S2) O2∧(∀x,0≤x∧x<(m:Int)→x∈O2)∧O2.length≤m∧S2.length=m:=by
 have W:WalkI (gOf R) (fun _=>True) (FinI (gOf R)):=⟨fun _ _ _ _=>trivial,fun G s o x h hx=>(h.see x).2 (Or.inr hx),fun G s o k h hk _=>h.enter hk,fun G s o k h h1 h2 h3=>h.leave h1 h2 h3⟩
 induction d with
 |zero=>
  intro i S O bo hi hS hI hs hO
  obtain rfl:i=m:=by omega
  refine⟨S,O,bo,by rw[F7oE,gF (by omega)],hI,fun x hx=> ?_,by omega,hS⟩
  rcases(hI.see x).1 (hs x hx)with q|q
  ·exact q
  ·exact q.elim
 |succ d ih=>
  intro i S O bo hi hS hI hs hO
  obtain⟨S2,O2,bo2,e1,e2,e3,e4,e5,e6,e7⟩:=Qe6 hlen nb hin hrl W (Qx S) (fun _=>False) S O (i:Int) bs bo hS hI (by omega) trivial (fun x hx=>hx.elim) (Ky _) (by omega)
  obtain⟨S3,O3,bo3,g1,g2,g3,g4,g5⟩:=ih (i+1) S2 O2 bo2 (by omega) e2 e3 (fun x hx=>by
   by_cases q:x=(i:Int)
   ·rw[q];exact e4
   ·exact e5 x (hs x (by omega))) (by omega)
  refine⟨S3,O3,bo3,?_,g2,g3,g4,g5⟩
  rw[F7oE,gT (by omega),up1 i (by omega)]
  simp only[e1,J0]
  rw[J1]
  exact g1
theorem Qf9(nx:Bool×List (Bool×List Int))(w b:Dl11Walk)(out:Bool×List Int)(i:Int)(t:Bool×List Int)(ht:t.2.length≤1048576)(d:Nat):∀(j:Nat) (m:Int),j+d=t.2.length→
  F73 nx w b out i m t (t.2.length:Int) (j:Int)=some ((t.2.drop j).foldl (fun m x=>if x<m then x else m) m):=by
 induction d with
 |zero=>
  intro j m hj
  rw[F73E,gF (by omega),K8 (by omega)]
  rfl
 |succ d ih=>
  intro j m hj
  have hlt:j<t.2.length:=by omega
  rw[F73E,gT (by omega),gT (by omega),gT (by omega),J2 t.2 _ j hlt,up1 j (by omega),K2 hlt,K16]
  by_cases c:t.2[j]<m
  ·rw[gT c,if_pos c,J1,ih (j+1) _ (by omega)]
  ·rw[gF c,if_neg c,J1,ih (j+1) _ (by omega)]
theorem Qhx(nx:Bool×List (Bool×List Int))(w b:Dl11Walk)(i least:Int)(bo:Bool)(m:Nat)(t:Bool×List Int)(ht:t.2.length≤1048576)(hin:∀x∈t.2,0≤x∧x<(m:Int))(d:Nat):∀(j:Nat) (out:List Int),j+d=t.2.length→out.length=m→
  ∃out2:List Int,out2.length=m∧(∀x∈t.2.drop j,vw 0 out2 x=least)∧(∀x,x∉t.2.drop j→vw 0 out2 x=vw 0 out x)∧F9y nx w b (bo,out) i least t (t.2.length:Int) (j:Int)=some (bo,out2):=by
 induction d with
 |zero=>
  intro j out hj ho
  refine⟨out,ho,fun x hx=> ?_,fun x _=>rfl,by rw[F9yE,gF (by omega)]⟩
  rw[K8 (by omega)]at hx
  cases hx
 |succ d ih=>
  intro j out hj ho
  have hlt:j<t.2.length:=by omega
  have hx:=hin _ (K3 hlt)
  obtain⟨out2,h1,h2,h3,h4⟩:=ih (j+1) (out.set (Int.toNat t.2[j]) least) (by omega) (by rw[Ko];exact ho)
  refine⟨out2,h1,fun x hx2=> ?_,fun x hx2=> ?_,?_⟩
  ·rw[K2 hlt]at hx2
   by_cases c:x∈t.2.drop (j+1)
   ·exact h2 x c
   ·rw[h3 x c,Q4u 0 out least (by omega)]
    rcases Kd.1 hx2 with rfl|hx2
    ·exact Qg _ _ _
    ·exact absurd hx2 c
  ·rw[K2 hlt]at hx2
   have n1:¬x=t.2[j]:=fun q=>hx2 (by rw[q];exact Kk)
   have n2:x∉t.2.drop (j+1):=fun q=>hx2 (K9 _ q)
   rw[h3 x n2,Q4u 0 out least (by omega),Qh _ _ n1]
  ·rw[F9yE,gT (by omega),gT (by omega),gT (by omega),J2 t.2 _ j hlt,gT hx.1,gT (by simp only;omega),up1 j (by omega),J1]
   exact h4
theorem Qhm{m:Nat}{R RT:List (Bool×List Int)}(hm:m≤10000)(hlen:R.length=m)(hlenT:RT.length=m)(nbT:Bool)(hin:∀x,∀y∈gOf R x,0≤y∧y<(m:Int))(hinT:∀x,∀y∈gOf RT x,0≤y∧y<(m:Int))(hrlT:∀x,(gOf RT x).length ≤20000000)(hr:∀x y,0≤x∧x<(m:Int)→(y∈gOf RT x↔x∈gOf R y))(nb:Bool)
  (w0:Bool×List (Bool×List Int))(w1:Bool×List Bool)(bO:Bool)(O:List Int){S0:List Bool}(hF:FinI (gOf R) (fun _=>False) (sB S0) O)(hall:∀x,0≤x∧x<(m:Int)→x∈O)(hO:∀x∈O,0≤x∧x<(m:Int))(hOl:O.length≤m)(bs bo:Bool)(n:Nat):
  ∀(S:List Bool) (out q:List Int) (bq:Bool),n≤O.length→S.length=m→out.length=m→(∀x,0≤x∧x<(m:Int)→(sB S x↔∃b∈O.drop n,Scc (gOf R) x b))→(∀x,0≤x∧x<(m:Int)→sB S x→IsL (gOf R) x (vw 0 out x))→
   ∃(P:List Int) (z:Dl11Walk),F8w (nb,R) (w0,(w1,(bO,O))) (nbT,RT) (bs,S) (bq,q) (bo,out) ((n:Int)-1)=some ((bo,P),z)∧P.length=m∧∀x,0≤x∧x<(m:Int)→IsL (gOf R) x (vw 0 P x):=by
 have hlim:=J5
 have okc:∀x,(0≤x∧x<(m:Int))→∀y∈gOf R x,0≤y∧y<(m:Int):=fun x _=>hin x
 have okr:∀x,(0≤x∧x<(m:Int))→∀y∈gOf RT x,0≤y∧y<(m:Int):=fun x _=>hinT x
 induction n with
 |zero=>
  intro S out q bq hn hS hout hs hv
  refine⟨out,((nbT,RT),((bs,S),(bq,q))),by rw[F8wE,gF (by omega)],hout,fun x hx=>hv x hx ?_⟩
  rw[hs x hx,Kf]
  exact⟨x,hall x hx,Scc.refl _ _⟩
 |succ n ih=>
  intro S out q bq hn hS hout hs hv
  have hlt:n<O.length:=by omega
  have hz:=hO _ (K3 hlt)
  have ho:O=O.take n++O[n]::O.drop (n+1):=by rw[←K2 hlt,List.take_append_drop]
  have ek:((n+1:Nat):Int)-1=(n:Int):=by omega
  by_cases c:sB S O[n]
  ·have e1:F1z (nbT,RT) (bs,S) (true,[]) O[n]=some ((nbT,RT),((bs,S),(true,[]))):=by
    rw[F1zE,gT hz.1,gT (by simp only;omega),bT c.2]
   have e4:F73 (nb,R) (w0,(w1,(bO,O))) ((nbT,RT),((bs,S),(true,[]))) (bo,out) (n:Int) (m:Int) (true,[]) (([]:List Int).length :Int) 0=some (m:Int):=by
    rw[F73E,gF (by simp)]
   have e6:F9y (nb,R) (w0,(w1,(bO,O))) ((nbT,RT),((bs,S),(true,[]))) (bo,out) (n:Int) (m:Int) (true,[]) (([]:List Int).length :Int) 0=some (bo,out):=by
    rw[F9yE,gF (by simp)]
   obtain⟨b,hb1,hb2⟩:=(hs _ hz).1 c
   obtain⟨P,z,g1,g2,g3⟩:=ih S out [] true (by omega) hS hout (fun x hx=>by
    rw[K2 hlt,hs x hx]
    constructor
    ·rintro⟨b2,q1,q2⟩
     exact⟨b2,K9 _ q1,q2⟩
    ·rintro⟨b2,q1,q2⟩
     rcases Kd.1 q1 with rfl|q1
     ·exact⟨b,hb1,q2.trans hb2⟩
     ·exact⟨b2,q1,q2⟩) hv
   refine⟨P,z,?_,g2,g3⟩
   rw[F8wE,ek,gT (by omega),gT (by omega),gT (by simp only;omega)]
   simp only[K5,Q3b hlt,e1,J0,hlen,e4,e6]
   rw[wr (by omega),J1]
   exact g1
  have W:WalkI (gOf RT) (fun x=>Way (gOf RT) O[n] x) (ColI (gOf RT) O[n] (sB S)):=⟨fun x h y hy=>h.snoc hy,fun G s o x h hx=>(h.see x).2 (Or.inr (Or.inr hx)),fun G s o k h hk ha=>h.enter hk ha,fun G s o k h _ h2 _=>h.leave h2⟩
  have hC0:ColI (gOf RT) O[n] (sB S) (fun _=>False) (sB S) []:=⟨fun x=>⟨fun h=>Or.inl h,fun h=>h.elim id (fun h=>h.elim (fun h=>by cases h) (fun h=>h.elim))⟩,fun x h=>h.elim (fun h=>by cases h) (fun h=>h.elim),fun x hx=>by cases hx⟩
  have hfl:Qx S≤m:=by rw[←hS];exact List.countP_le_length
  obtain⟨S2,Q,bQ,e1,e2,e3,e4,e5,e6,e7⟩:=Qe6 hlenT nbT hinT hrlT W (Qx S) (fun _=>False) S [] O[n] bs true hS hC0 hz (Way.here _) (fun x hx=>hx.elim) (Ky _) (by simp;omega)
  have hQin:∀x∈Q,0≤x∧x<(m:Int):=fun x hx=>Way.closed okr (e3.new x (Or.inl hx)).2 hz
  have hQl:Q.length≤1048576:=by
   simp only[K1q,K1k]at e7
   omega
  have hlast:=Qf9 (nb,R) (w0,(w1,(bO,O))) ((nbT,RT),((bs,S2),(bQ,Q))) (bo,out) (n:Int) (bQ,Q) hQl Q.length 0 (m:Int) (by simp)
  obtain⟨out2,p1,p2,p3,p4⟩:=Qhx (nb,R) (w0,(w1,(bO,O))) ((nbT,RT),((bs,S2),(bQ,Q))) (n:Int) (Q.foldl (fun m x=>if x<m then x else m) (m:Int)) bo m (bQ,Q) hQl hQin Q.length 0 out (by simp) hout
  rw[Kf]at hlast p2 p3
  have hlast':F73 (nb,R) (w0,(w1,(bO,O))) ((nbT,RT),((bs,S2),(bQ,Q))) (bo,out) (n:Int) (m:Int) (bQ,Q) (Q.length:Int) 0=_:=hlast
  have p4':F9y (nb,R) (w0,(w1,(bO,O))) ((nbT,RT),((bs,S2),(bQ,Q))) (bo,out) (n:Int) (Q.foldl (fun m x=>if x<m then x else m) (m:Int)) (bQ,Q) (Q.length:Int) 0=_:=p4
  have hzq:O[n]∈Q:=by
   rcases(e3.see O[n]).1 e4 with k|k|k
   ·exact absurd k c
   ·exact k
   ·exact k.elim
  have hscc:∀x,0≤x∧x<(m:Int)→(x∈Q↔Scc (gOf R) O[n] x):=fun x hx=>Qgh hF hall okc okr (fun x y hx=>hr x y hx) ho hz (fun x hx=>hs x hx) e3 c hzq x hx
  have hs2:∀x,0≤x∧x<(m:Int)→(sB S2 x↔∃b∈O.drop n,Scc (gOf R) x b):=by
   intro x hx
   rw[K2 hlt]
   constructor
   ·intro h
    rcases(e3.see x).1 h with k|k|k
    ·obtain⟨b2,q1,q2⟩:=(hs x hx).1 k
     exact⟨b2,K9 _ q1,q2⟩
    ·exact⟨O[n],Kk,((hscc x hx).1 k).symm⟩
    ·exact k.elim
   ·rintro⟨b2,q1,q2⟩
    rcases Kd.1 q1 with rfl|q1
    ·exact(e3.see x).2 (Or.inr (Or.inl ((hscc x hx).2 q2.symm)))
    ·exact e5 x ((hs x hx).2 ⟨b2,q1,q2⟩)
  obtain⟨f1,f2,f3⟩:=Q83 Q (m:Int)
  have hleast:Q.foldl (fun m x=>if x<m then x else m) (m:Int)∈Q:=by
   rcases f1 with k|k
   ·have:=f3 _ hzq
    omega
   ·exact k
  have hv2:∀x,0≤x∧x<(m:Int)→sB S2 x→IsL (gOf R) x (vw 0 out2 x):=by
   intro x hx h
   by_cases k:x∈Q
   ·rw[p2 x k]
    refine⟨((hscc x hx).1 k).symm.trans ((hscc _ (hQin _ hleast)).1 hleast),fun y hy=>f3 y ?_⟩
    exact(hscc y (Way.closed okc hy.1 hx)).2 (((hscc x hx).1 k).trans hy)
   ·rw[p3 x k]
    rcases(e3.see x).1 h with k2|k2|k2
    ·exact hv x hx k2
    ·exact absurd k2 k
    ·exact k2.elim
  obtain⟨P,z,g1,g2,g3⟩:=ih S2 out2 Q bQ (by omega) e2 p1 hs2 hv2
  refine⟨P,z,?_,g2,g3⟩
  rw[F8wE,ek,gT (by omega),gT (by omega),gT (by simp only;omega)]
  simp only[K5,Q3b hlt,e1,J0,hlen,hlast',p4']
  rw[wr (by omega),J1]
  exact g1
theorem Q1k{R:List (Bool×List Int)}{G:List (List Int)}(h:R.map Prod.snd=G)(x:Int):gOf R x=if 0≤x then G.getD x.toNat []else[]:=by
 unfold gOf
 subst h
 by_cases c:0≤x
 ·rw[if_pos c,if_pos c]
  by_cases q:x.toNat<R.length
  ·simp[K1,q]
  ·simp[K1,K1l (Nat.le_of_not_lt q)]
 ·rw[if_neg c,if_neg c]
theorem Q4n{G:List (List Int)}{k:Nat}{y:Int}(h:y∈G.getD k []):∃l∈G,y∈l∧k<G.length:=by
 by_cases q:k<G.length
 ·have e:G.getD k []=G[k]:=by simp[K1,q]
  rw[e]at h
  exact⟨_,K3 q,h,q⟩
 ·rw[K1,K1l (Nat.le_of_not_lt q)]at h
  cases h
theorem Qbo{m:Nat}{G:List (List Int)}(h1:1≤m)(hG:Gr m G)(hs:∀l∈G,l.length≤2000)(nb nb2:Bool){R R2:List (Bool×List Int)}(hR:R.map Prod.snd=G)(hR2:R2.map Prod.snd=G):
  ∃b b2 P,F26 (nb,R)=some (b,P)∧Fb (nb2,R2)=some (b2,P)∧P.length=m∧∀x,0≤x∧x<(m:Int)→IsL (gOf R) x (P.getD x.toNat 0):=by
 have hlim:=J5
 have hsm:=hG.small
 have hlen:R.length=m:=by rw[←hG.len,←hR,Ki]
 have hlen2:R2.length=m:=by rw[←hG.len,←hR2,Ki]
 have eg:gOf R2=gOf R:=by funext x;rw[Q1k hR2,Q1k hR]
 have hin:∀x,∀y∈gOf R x,0≤y∧y<(m:Int):=by
  intro x y hy
  rw[Q1k hR]at hy
  split at hy
  ·obtain⟨l,hl,hyl,_⟩:=Q4n hy
   exact hG.inn l hl y hyl
  ·cases hy
 have hrl:∀x,(gOf R x).length ≤20000000:=by
  intro x
  rw[Q1k hR]
  split
  ·by_cases q:x.toNat<G.length
   ·have e:G.getD x.toNat []=G[x.toNat]:=by simp[K1,q]
    rw[e]
    have:=hs _ (K3 q)
    omega
   ·rw[K1,K1l (Nat.le_of_not_lt q)]
    simp
  ·simp
 obtain⟨b,P,e1,e2,e3⟩:=Qdu h1 hsm hlen nb hin hrl
 obtain⟨Q,q1,_,q3⟩:=Q3k hG hs nb2 hR2
 have hg:∀l∈G,∀w∈l,0≤w∧w<(G.length:Int):=by rw[hG.len];exact hG.inn
 have hTl:=Q1b G hg G.length (Ky _)
 have hlenT:Q.length=m:=by
  have:=congrArg List.length q1
  rw[Ki]at this
  rw[this,←hG.len]
  exact hTl.1
 have hmT:∀x y,0≤x∧x<(m:Int)→(y∈gOf Q x↔x∈gOf R2 y):=by
  intro x y hx
  rw[Q1k q1,if_pos hx.1,Q1z hg,Q1k hR2]
  have ex:((x.toNat:Nat):Int)=x:=K1p hx.1
  constructor
  ·rintro⟨v,hv1,rfl,hv3⟩
   rw[if_pos (by omega),K5,←ex]
   exact hv3
  ·intro h
   split at h
   ·rename_i hy
    obtain⟨l,_,_,hk⟩:=Q4n h
    exact⟨y.toNat,hk,(K1p hy).symm,by rw[ex];exact h⟩
   ·cases h
 have hinT:∀x,∀y∈gOf Q x,0≤y∧y<(m:Int):=by
  intro x y hy
  by_cases hx:0≤x
  ·rw[Q1k q1,if_pos hx,Q1z hg]at hy
   obtain⟨v,hv1,rfl,_⟩:=hy
   rw[←hG.len]
   omega
  ·rw[Q1k q1,if_neg hx]at hy
   cases hy
 have hgT:=Q54 hG hs
 have hrlT:∀x,(gOf Q x).length ≤20000000:=by
  intro x
  rw[Q1k q1]
  split
  ·by_cases q:x.toNat<(Qf G).length
   ·have e:(Qf G).getD x.toNat []=(Qf G)[x.toNat]:=by simp[K1,q]
    rw[e]
    exact hgT.short _ (K3 q)
   ·rw[K1,K1l (Nat.le_of_not_lt q)]
    simp
  ·simp
 have hin2:=hin
 rw[←eg]at hin2
 have hrl2:=hrl
 rw[←eg]at hrl2
 have hF0:FinI (gOf R2) (fun _=>False) (sB (List.replicate m false)) []:=⟨fun x=>⟨fun h=>absurd h (Q9z m x),fun h=>h.elim (fun h=>(by cases h)) (fun h=>h.elim)⟩,fun x hx=>(by cases hx),fun x hx=>(by cases hx),fun A z B e=>(by cases A<;>cases e),List.nodup_nil⟩
 obtain⟨S2,O2,bo2,k1,k2,k3,k4,k5⟩:=Qhl hsm hlen2 nb2 hin2 hrl2 (nb2,R2) false m 0 (List.replicate m false) [] true (by omega) (by simp) hF0 (fun x hx=>by omega) (by rw[Q4y];simp)
 have k1':F7o (nb2,R2) (nb2,R2) (false,List.replicate m false) (true,[]) (m:Int) 0=_:=k1
 have hO:∀x∈O2,0≤x∧x<(m:Int):=fun x hx=>by
  obtain⟨a,b⟩:=(k2.see x).2 (Or.inl hx)
  refine⟨a,?_⟩
  rcases K2a x (m:Int)with q|q
  ·exact q
  ·rw[K1,K1l (by omega)]at b
   cases b
 obtain⟨P2,z,j1,j2,j3⟩:=Qhm hsm hlen2 hlenT false hin2 hinT hrlT hmT nb2 (nb2,R2) (false,S2) bo2 O2 k2 k3 hO k4 false false O2.length (List.replicate m false) (List.replicate m 0) [] true (Ky _) (by simp) (by simp) (fun x hx=>by
  rw[List.drop_length]
  exact⟨fun h=>absurd h (Q9z m x),fun⟨b,hb,_⟩=>by cases hb⟩) (fun x hx h=>absurd h (Q9z m x))
 have ePP:P2=P:=by
  apply List.ext_getElem (by rw[j2,e2])
  intro i hi1 hi2
  have a:=e3 (i:Int) (by omega)
  have b:=j3 (i:Int) (by omega)
  rw[eg]at b
  have c:=a.one b
  rw[Qh6 (-1) 0 P (by omega),Q43 0 P2 (by omega),K5]at c
  rw[Q3b hi2,Q3b hi1]at c
  exact c.symm
 refine⟨b,false,P,e1,?_,e2,fun x hx=>by rw[←Qh6 (-1) 0 P (by omega)];exact e3 x hx⟩
 have ew:IntKind.i64.wrap ((O2.length:Int)-1)=(O2.length:Int)-1:=wr (by omega)
 rw[FbE]
 simp only[hlen2,K5,k1',J0,q3,ew,j1]
 rw[gT (by omega),gT (by omega),gT (by omega),gT (by omega),gT (by omega),gT (by omega),gT (by omega),gT (by omega),gT (by omega),gT (by omega),gT (by omega),gT (by omega),ePP]
def gG(G:List (List Int)):Int→List Int:=fun x=>if 0≤x then G.getD x.toNat []else[]
theorem Q9c(G:List (List Int)){x:Int}(h:0≤x):gG G x=G.getD x.toNat []:=if_pos h
structure Step1 (k:Nat) (s q:List Int) (s2 q2:List Int):Prop where
 len:s2.length=s.length
 same:∀v,v<s.length→0≤s.getD v 0→s2.getD v 0=s.getD v 0
 new:∀v,v<s.length→0≤s2.getD v 0→0≤s.getD v 0∨((v:Int)∈q2∧1≤s2.getD v 0)
 que:∀w∈q,w∈q2
theorem Step1.refl(k:Nat)(s q:List Int):Step1 k s q s q:=⟨rfl,fun _ _ _=>rfl,fun _ _ h=>Or.inl h,fun _ h=>h⟩
theorem Step1.trans{k:Nat}{s q s2 q2 s3 q3:List Int}(h:Step1 k s q s2 q2)(h2:Step1 k s2 q2 s3 q3):Step1 k s q s3 q3:=by
 refine⟨by rw[h2.len,h.len],fun v hv h0=> ?_,fun v hv h0=> ?_,fun w hw=>h2.que w (h.que w hw)⟩
 ·rw[h2.same v (by rw[h.len];exact hv) (by rw[h.same v hv h0];exact h0),h.same v hv h0]
 ·rcases h2.new v (by rw[h.len];exact hv) h0 with a|⟨a,b⟩
  ·rcases h.new v hv a with c|⟨c,d⟩
   ·exact Or.inl c
   ·refine Or.inr ⟨h2.que _ c,?_⟩
    rw[h2.same v (by rw[h.len];exact hv) a]
    exact d
  ·exact Or.inr ⟨a,b⟩
theorem Qfo{k:Nat}{s q:List Int}(hk:k<s.length)(hk0:0≤s.getD k 0){w:Int}(hw:0≤w∧w<(s.length:Int)):Step1 k s q (Qm k (s,q) w).1 (Qm k (s,q) w).2 ∧0≤(Qm k (s,q) w).1.getD w.toNat 0:=by
 have hwl:w.toNat<s.length:=by omega
 unfold Qm
 by_cases c:s.getD w.toNat 0<0
 ·simp only[if_pos c]
  refine⟨⟨by rw[Ko],fun v hv h0=> ?_,fun v hv h0=> ?_,fun x hx=>Kb _ hx⟩,?_⟩
  ·rw[Qa s _ _ _ hwl]
   split
   ·rename_i e
    subst e
    omega
   ·rfl
  ·rw[Qa s _ _ _ hwl]at h0⊢
   split
   ·rename_i e
    refine Or.inr ⟨?_,by omega⟩
    have:(v:Int)=w:=by omega
    rw[this]
    simp
   ·rename_i e
    rw[if_neg e]at h0
    exact Or.inl h0
  ·rw[Qa s _ _ _ hwl,if_pos rfl]
   omega
 ·simp only[if_neg c]
  exact⟨Step1.refl k s q,by omega⟩
theorem Qfn{k:Nat}(ws:List Int):∀{s q:List Int},k<s.length→0≤s.getD k 0→(∀w∈ws,0≤w∧w<(s.length:Int))→Step1 k s q (ws.foldl (Qm k) (s,q)).1 (ws.foldl (Qm k) (s,q)).2 ∧∀w∈ws,0≤(ws.foldl (Qm k) (s,q)).1.getD w.toNat 0:=by
 induction ws with
 |nil=>intro s q _ _ _;exact⟨Step1.refl k s q,fun w hw=>by cases hw⟩
 |cons a ws ih=>
  intro s q hk hk0 hw
  obtain⟨h1,h2⟩:=Qfo (q:=q) hk hk0 (hw a Kk)
  have hl:=h1.len
  obtain⟨h3,h4⟩:=ih (s:=(Qm k (s,q) a).1) (q:=(Qm k (s,q) a).2) (by omega) (by rw[h1.same k hk hk0];exact hk0) (fun w hw2=>by rw[hl];exact hw w (K9 _ hw2))
  rw[K16]
  refine⟨h1.trans h3,fun w hw2=> ?_⟩
  rcases Kd.1 hw2 with rfl|hw2
  ·have ha:=hw w Kk
   rw[h3.same w.toNat (by omega) h2]
   exact h2
  ·exact h4 w hw2
def Qed(G:List (List Int))(s q:List Int):Prop:=∀v:Nat,v<s.length→0≤s.getD v 0→(v:Int)∈q∨∀w∈G.getD v [],0≤s.getD w.toNat 0
def Zero(l s:List Int):Prop:=∀v:Nat,v<s.length→s.getD v 0=0→(v:Int)∈l
theorem Qcd{m:Nat}{G:List (List Int)}(hG:Gr m G)(l:List Int)(n:Nat):∀(s q:List Int),BInv m s q→Qed G s q→Zero l s→2*negs s+q.length≤n→Qed G (bfsL G n s q) []∧Zero l (bfsL G n s q)∧(bfsL G n s q).length =m∧∀v,v<m→0≤s.getD v 0→(bfsL G n s q).getD v 0=s.getD v 0:=by
 induction n with
 |zero=>
  intro s q hI hS hZ hn
  have:q=[]:=List.length_eq_zero_iff.1 (by omega)
  subst this
  exact⟨hS,hZ,hI.len,fun _ _ _=>rfl⟩
 |succ n ih=>
  intro s q hI hS hZ hn
  cases q with
  |nil=>exact⟨hS,hZ,hI.len,fun _ _ _=>rfl⟩
  |cons k q=>
   obtain⟨hk1,hk2⟩:=hI.que k Kk
   have hlen:=hI.len
   have hI':BInv m s q:=⟨hI.len,hI.low,hI.high,fun w hw=>hI.que w (K9 _ hw)⟩
   have hkG:k.toNat<G.length:=by rw[hG.len];omega
   have e:G.getD k.toNat []∈G:=by
    have e:G.getD k.toNat []=G[k.toNat]:=by simp[K1,hkG]
    rw[e]
    exact K3 _
   have hin:=hG.inn _ e
   obtain⟨v1,v2⟩:=Q4j (show k.toNat<m by omega) (G.getD k.toNat []) hI' hk2 hin
   obtain⟨t1,t2⟩:=Qfn (q:=q) (G.getD k.toNat []) (k:=k.toNat) (s:=s) (by omega) hk2 (by rw[hlen];exact hin)
   have hl2:=t1.len
   simp only[Kp]at hn
   obtain⟨a1,a2,a3,a4⟩:=ih _ _ v1 (fun v hv h0=>by
    rcases t1.new v (by omega) h0 with c|⟨c,_⟩
    ·rcases hS v (by omega) c with d|d
     ·rcases Kd.1 d with d|d
      ·right
       have ev:k.toNat=v:=by omega
       rw[←ev]
       exact t2
      ·exact Or.inl (t1.que _ d)
     ·right
      intro w hw
      have hvG:v<G.length:=by rw[hG.len];omega
      have e2:G.getD v []∈G:=by
       have e:G.getD v []=G[v]:=by simp[K1,hvG]
       rw[e]
       exact K3 _
      have hwi:=hG.inn _ e2 w hw
      rw[t1.same w.toNat (by omega) (d w hw)]
      exact d w hw
    ·exact Or.inl c) (fun v hv h0=>by
    rcases t1.new v (by omega) (by omega)with c|⟨_,c⟩
    ·exact hZ v (by omega) (by rw[←t1.same v (by omega) c];exact h0)
    ·omega) (by omega)
   refine⟨a1,a2,a3,fun v hv h0=> ?_⟩
   have:=t1.same v (by omega) h0
   show(bfsL G n _ _).getD v 0=_
   rw[a4 v hv (by rw[this];exact h0),this]
theorem Q9a(m:Nat)(l:List Int)(hl:∀w∈l,0≤w∧w<(m:Int))(v:Nat)(hv:v<m):(far0 m l).getD v 0=if(v:Int)∈l then 0 else -1:=by
 have key:∀(l s:List Int),(∀w∈l,0≤w∧w<(m:Int))→s.length=m→(l.foldl (fun s w=>s.set w.toNat 0) s).getD v 0=if(v:Int)∈l then 0 else s.getD v 0:=by
  intro l
  induction l with
  |nil=>intro s _ _;rfl
  |cons a l ih=>
   intro s hw hs
   have ha:=hw a Kk
   rw[K16,ih _ (fun w h=>hw w (K9 _ h)) (by rw[Ko];exact hs),Qa s _ _ _ (by omega)]
   by_cases c:(v:Int)∈l
   ·rw[if_pos c,if_pos (K9 _ c)]
   ·rw[if_neg c]
    by_cases e:a.toNat=v
    ·rw[if_pos e,if_pos (by have:(v:Int)=a:=(by omega);rw[this];exact Kk)]
    ·rw[if_neg e,if_neg (fun q=>by
      rcases Kd.1 q with q|q
      ·omega
      ·exact c q)]
 have:=key l (List.replicate m (-1)) hl (by simp)
 rw[far0,this]
 congr 1
 simp[K1,hv]
theorem Q4b{m:Nat}{G:List (List Int)}(hG:Gr m G)(l:List Int)(hw:∀w∈l,0≤w∧w<(m:Int)):(farL G l).length =m∧Qed G (farL G l) []∧Zero l (farL G l)∧(∀w∈l,(farL G l).getD w.toNat 0=0)∧Pred G (farL G l):=by
 have hI:=Q3s m l hw
 have hn:=Q5p (far0 m l)
 have hlen:=hI.len
 have hS:Qed G (far0 m l) l:=fun v hv h0=>by
  rw[Q9a m l hw v (by omega)]at h0
  split at h0
  ·rename_i h;exact Or.inl h
  ·omega
 have hZ:Zero l (far0 m l):=fun v hv h0=>by
  rw[Q9a m l hw v (by omega)]at h0
  split at h0
  ·rename_i h;exact h
  ·omega
 have hb:=Qcd hG l (2*m+l.length) (far0 m l) l hI hS hZ (by omega)
 have hP:=Q81 hG l hw
 rw[farL,hG.len]at hP⊢
 obtain⟨b1,b2,b3,b4⟩:=hb
 refine⟨b3,b1,b2,fun w hwl=> ?_,hP⟩
 have hwi:=hw w hwl
 have e:(far0 m l).getD w.toNat 0=0:=by
  rw[Q9a m l hw w.toNat (by omega),if_pos (by rw[K1p hwi.1];exact hwl)]
 rw[b4 w.toNat (by omega) (by omega),e]
theorem Qcs{m:Nat}{G:List (List Int)}(hG:Gr m G):∀x,∀y∈gG G x,0≤y∧y<(m:Int):=by
 intro x y hy
 unfold gG at hy
 split at hy
 ·by_cases q:x.toNat<G.length
  ·have e:G.getD x.toNat []=G[x.toNat]:=by simp[K1,q]
   rw[e]at hy
   exact hG.inn _ (K3 q) y hy
  ·rw[K1,K1l (Nat.le_of_not_lt q)]at hy
   cases hy
 ·cases hy
theorem Q79{m:Nat}{G:List (List Int)}(hG:Gr m G)(l:List Int)(hw:∀w∈l,0≤w∧w<(m:Int))(v:Int)(hv:0≤v∧v<(m:Int)):0≤(farL G l).getD v.toNat 0↔∃u∈l,Way (gG G) u v:=by
 obtain⟨h1,h2,h3,h4,h5⟩:=Q4b hG l hw
 constructor
 ·have key:∀(n:Nat) (v:Nat),v<m→(farL G l).getD v 0=(n:Int)→∃u∈l,Way (gG G) u (v:Int):=by
   intro n
   induction n with
   |zero=>
    intro v hv h0
    exact⟨(v:Int),h3 v (by omega) h0,Way.here _⟩
   |succ n ih=>
    intro v hv h0
    obtain⟨u,u1,u2,u3⟩:=h5 v (by omega) (by omega)
    obtain⟨a,a1,a2⟩:=ih u (by omega) (by omega)
    exact⟨a,a1,a2.snoc (by rw[Q9c G (by omega),K5];exact u2)⟩
  intro h0
  obtain⟨n,hn⟩:=Ke h0
  have:=key n v.toNat (by omega) hn
  rwa[K1p hv.1]at this
 ·rintro⟨u,hu,huv⟩
  have hui:=hw u hu
  have key:(0≤v∧v<(m:Int))∧0≤(farL G l).getD v.toNat 0:=Way.closed (P:=fun x=>(0≤x∧x<(m:Int))∧0≤(farL G l).getD x.toNat 0) (fun x hx y hy=>by
   have hyi:=Qcs hG x y hy
   refine⟨hyi,?_⟩
   rcases h2 x.toNat (by omega) hx.2 with c|c
   ·cases c
   ·rw[Q9c G hx.1.1]at hy
    exact c y hy) huv ⟨hui,by rw[h4 u hu];omega⟩
  exact key.2
theorem Qgl{m:Nat}{G:List (List Int)}(hG:Gr m G):∀x y,0≤x∧x<(m:Int)→(y∈gG (Qf G) x↔x∈gG G y):=by
 have hg:∀l∈G,∀w∈l,0≤w∧w<(G.length:Int):=by rw[hG.len];exact hG.inn
 intro x y hx
 rw[Q9c _ hx.1,Q1z hg]
 have ex:((x.toNat:Nat):Int)=x:=K1p hx.1
 unfold gG
 constructor
 ·rintro⟨v,hv1,rfl,hv3⟩
  rw[if_pos (by omega),K5,←ex]
  exact hv3
 ·intro h
  split at h
  ·rename_i hy
   by_cases q:y.toNat<G.length
   ·exact⟨y.toNat,q,(K1p hy).symm,by rw[ex];exact h⟩
   ·rw[K1,K1l (Nat.le_of_not_lt q)]at h
    cases h
  ·cases h
theorem Qfx{m:Nat}{G:List (List Int)}(hG:Gr m G){a b:Int}(hb:0≤b∧b<(m:Int)):Way (gG G) a b→Way (gG (Qf G)) b a:=by
 intro h
 induction h with
 |here a=>exact Way.here a
 |step e _ ih=>exact(ih hb).snoc ((Qgl hG _ _ (Qcs hG _ _ e)).2 e)
theorem Q39(s:List Int)(l:List Int)(hl:∀x∈l,0≤x)(x:Int)(hx:x∈l)(h0:0≤s.getD x.toNat 0):0≤Q13 s l∧s.getD (Q13 s l).toNat 0≤s.getD x.toNat 0:=by
 have key:∀(l:List Int) (b:Int),(∀x∈l,0≤x)→((0≤b∧s.getD b.toNat 0≤s.getD x.toNat 0)∨x∈l)→0≤l.foldl (Qu s) b∧s.getD (l.foldl (Qu s) b).toNat 0≤s.getD x.toNat 0:=by
  intro l
  induction l with
  |nil=>intro b _ h;exact h.resolve_right (by simp)
  |cons a l ih=>
   intro b hl h
   rw[K16]
   have ha:=hl a Kk
   refine ih _ (fun y hy=>hl y (K9 _ hy)) ?_
   unfold Qu
   rcases h with⟨b0,b1⟩|h
   ·left
    by_cases c:s.getD a.toNat 0≥0
    ·rw[if_pos c,if_neg (by omega)]
     by_cases c2:s.getD a.toNat 0<s.getD b.toNat 0
     ·rw[if_pos c2];exact⟨ha,by omega⟩
     ·rw[if_neg c2];exact⟨b0,b1⟩
    ·rw[if_neg c];exact⟨b0,b1⟩
   ·rcases Kd.1 h with rfl|h
    ·left
     rw[if_pos (show s.getD x.toNat 0≥0 from h0)]
     by_cases c:b<0
     ·rw[if_pos c];exact⟨ha,Int.le_refl _⟩
     ·rw[if_neg c]
      by_cases c2:s.getD x.toNat 0<s.getD b.toNat 0
      ·rw[if_pos c2];exact⟨ha,Int.le_refl _⟩
      ·rw[if_neg c2];exact⟨by omega,by omega⟩
    ·exact Or.inr h
 exact key l (-1) hl (Or.inr hx)
theorem Q46(s:List Int)(l:List Int):Q13 s l<0∨(Q13 s l∈l∧0≤s.getD (Q13 s l).toNat 0):=by
 have key:∀(l m:List Int) (b:Int),(b<0∨(b∈m∧0≤s.getD b.toNat 0))→(l.foldl (Qu s) b<0∨(l.foldl (Qu s) b∈m++l∧0≤s.getD (l.foldl (Qu s) b).toNat 0)):=by
  intro l
  induction l with
  |nil=>intro m b h;rw[K1s];exact h
  |cons a l ih=>
   intro m b h
   have:=ih (m++[a]) (Qu s b a) (by
    unfold Qu
    by_cases c:s.getD a.toNat 0≥0
    ·rw[if_pos c]
     by_cases c2:b<0
     ·rw[if_pos c2];exact Or.inr ⟨by simp,c⟩
     ·rw[if_neg c2]
      by_cases c3:s.getD a.toNat 0<s.getD b.toNat 0
      ·rw[if_pos c3];exact Or.inr ⟨by simp,c⟩
      ·rw[if_neg c3];exact h.imp id fun q=>⟨Kb _ q.1,q.2⟩
    ·rw[if_neg c];exact h.imp id fun q=>⟨Kb _ q.1,q.2⟩)
   rw[Kj]at this
   exact this
 exact key l [] (-1) (Or.inl (by decide))
theorem Qfd{G:List (List Int)}{s:List Int}{v:Int}(h:∃u∈G.getD v.toNat [],s.getD u.toNat 0=s.getD v.toNat 0-1):Q20 G s v∈G.getD v.toNat []∧s.getD (Q20 G s v).toNat 0=s.getD v.toNat 0-1:=by
 obtain⟨u,u1,u2⟩:=h
 unfold Q20
 cases q:(G.getD v.toNat []).find? fun w=>s.getD w.toNat 0==s.getD v.toNat 0-1 with
 |none=>
  have:=List.find?_eq_none.1 q u u1
  exact absurd (beq_iff_eq.2 u2) this
 |some w=>exact⟨K26 q,by simpa using List.find?_some q⟩
theorem Qfw{m:Nat}{G:List (List Int)}(hG:Gr m G)(s:List Int)(hP:∀v:Nat,v<m→0<s.getD v 0→∃u∈G.getD v [],s.getD u.toNat 0=s.getD v 0-1)(n:Nat):∀(k:Nat) (v:Int) (out:List Int),(0≤v∧v<(m:Int))→s.getD v.toNat 0=(n:Int)→n≤k→
  ∃t,wayL G s k v out=out++t∧t.length=n∧(∀i,i<n→(v::t).getD (i+1) 0∈G.getD ((v::t).getD i 0).toNat [])∧∀i,i≤n→(0≤(v::t).getD i 0∧(v::t).getD i 0<(m:Int))∧s.getD ((v::t).getD i 0).toNat 0=(n:Int)-i:=by
 induction n with
 |zero=>
  intro k v out hv h0 _
  refine⟨[],?_,rfl,fun i hi=>by omega,fun i hi=> ?_⟩
  ·cases k with
   |zero=>simp[wayL]
   |succ k=>rw[wayL,if_neg (by omega),K1s]
  ·obtain rfl:i=0:=by omega
   exact⟨hv,by simpa using h0⟩
 |succ n ih=>
  intro k v out hv h0 hk
  obtain⟨k,rfl⟩:∃k',k=k'+1:=⟨k-1,by omega⟩
  obtain⟨n1,n2⟩:=Qfd (hP v.toNat (by omega) (by omega))
  have hvG:v.toNat<G.length:=by rw[hG.len];omega
  have e:G.getD v.toNat []=G[v.toNat]:=by simp[K1,hvG]
  have hin:=hG.inn _ (K3 hvG) _ (e▸n1)
  obtain⟨t,t1,t2,t3,t4⟩:=ih k (Q20 G s v) (out++[Q20 G s v]) hin (by omega) (by omega)
  refine⟨Q20 G s v::t,?_,by simp[t2],fun i hi=> ?_,fun i hi=> ?_⟩
  ·rw[wayL,if_pos (by omega),t1,Kj]
   rfl
  ·cases i with
   |zero=>simpa using n1
   |succ i=>
    have:=t3 i (by omega)
    simpa only[List.getD_cons_succ]using this
  ·cases i with
   |zero=>exact⟨hv,by simpa using h0⟩
   |succ i=>
    have:=t4 i (by omega)
    simp only[List.getD_cons_succ]
    exact⟨this.1,by omega⟩
structure ShortWay (G:List (List Int)) (fr to l:List Int):Prop where
 len:l.length≤G.length
 pos:1≤l.length
 head:l.getD 0 0∈fr
 last:l.getD (l.length-1) 0∈to
 arc:∀i,i+1<l.length→l.getD (i+1) 0∈G.getD (l.getD i 0).toNat []
 inn:∀i,i<l.length→0≤l.getD i 0∧l.getD i 0<(G.length:Int)
 notf:∀i,i+1<l.length→¬l.getD (i+1) 0∈fr
 nott:∀i,i+1<l.length→¬l.getD i 0∈to
theorem Q3g{m:Nat}{G:List (List Int)}(hG:Gr m G)(hs:∀l∈G,l.length≤2000)(fr to:List Int)(hfw:∀w∈fr,0≤w∧w<(m:Int))(ht:to.length≤10000)(htw:∀w∈to,0≤w∧w<(m:Int)){l:List Int}(h:Q17 G fr to=some l):ShortWay G fr to l:=by
 have hT:=Q54 hG hs
 have hg:∀l∈G,∀w∈l,0≤w∧w<(G.length:Int):=by rw[hG.len];exact hG.inn
 have hI:=Qab hT to ht htw
 obtain⟨f1,f2,f3,f4,f5⟩:=Q4b hT to htw
 have hP2:∀v:Nat,v<m→0<(farL (Qf G) to).getD v 0→∃u∈G.getD v [],(farL (Qf G) to).getD u.toNat 0=(farL (Qf G) to).getD v 0-1:=by
  intro v hv h0
  obtain⟨u,u1,u2,u3⟩:=f5 v (by omega) h0
  obtain⟨v',_,hv2,hv3⟩:=(Q1z hg u (v:Int)).1 u2
  have:v'=v:=by omega
  subst this
  exact⟨(u:Int),hv3,by rw[K5];exact u3⟩
 unfold Q17 at h
 by_cases c:Q13 (farL (Qf G) to) fr<0
 ·rw[if_pos c]at h;cases h
 ·rw[if_neg c]at h
  obtain⟨b1,b2⟩:=(Q46 (farL (Qf G) to) fr).resolve_left c
  have hb:=hfw _ b1
  have hmin:=fun x hx h0=>(Q39 (farL (Qf G) to) fr (fun x hx=>(hfw x hx).1) x hx h0).2
  generalize Q13 (farL (Qf G) to) fr=v at h c b1 b2 hb hmin
  generalize farL (Qf G) to=s at h hI f1 f2 f3 f4 f5 hP2 b2 hmin
  obtain⟨n,hn⟩:=Ke b2
  have hhi:=hI.high _ (Q2y (s:=s) (i:=v.toNat) (by omega))
  obtain⟨t,t1,t2,t3,t4⟩:=Qfw hG s hP2 n G.length v [v] hb hn (by rw[hG.len];omega)
  rw[t1]at h
  have el:l=v::t:=(Option.some.inj h).symm
  subst el
  have hl:(v::t).length =n+1:=by rw[Kp,t2]
  refine⟨by rw[hl,hG.len];omega,by omega,by simpa using b1,?_,fun i hi=>t3 i (by omega),fun i hi=> ?_,fun i hi q=> ?_,fun i hi q=> ?_⟩
  ·obtain⟨a1,a2⟩:=t4 n (Ky _)
   rw[hl,Nat.add_sub_cancel]
   have:=f3 ((v::t).getD n 0).toNat (by omega) (by omega)
   rwa[K1p a1.1]at this
  ·rw[hG.len]
   exact(t4 i (by omega)).1
  ·obtain⟨a1,a2⟩:=t4 (i+1) (by omega)
   have:=hmin _ q (by omega)
   omega
  ·obtain⟨a1,a2⟩:=t4 i (by omega)
   have:=f4 _ q
   omega
theorem Q3f{m:Nat}{G:List (List Int)}(hG:Gr m G)(hs:∀l∈G,l.length≤2000)(fr to:List Int)(hfw:∀w∈fr,0≤w∧w<(m:Int))(htw:∀w∈to,0≤w∧w<(m:Int))(h:Q17 G fr to=none){x y:Int}(hx:x∈fr)(hy:y∈to):¬Way (gG G) x y:=by
 intro hw
 have hT:=Q54 hG hs
 have h1:Way (gG (Qf G)) y x:=Qfx hG (htw y hy) hw
 have h2:=(Q79 hT to htw x (hfw x hx)).2 ⟨y,hy,h1⟩
 have h3:=(Q39 (farL (Qf G) to) fr (fun x hx=>(hfw x hx).1) x hx h2).1
 unfold Q17 at h
 rw[if_neg (by omega)]at h
 cases h
def arcB(G:List (List Int))(P:List Int)(p:Int):Bool:=(List.range G.length).any fun v=>P.getD v 0==p&&(G.getD v []).any fun w=>P.getD w.toNat 0==p
def hitB(P goal:List Int)(p:Int):Bool:=goal.any fun k=>P.getD k.toNat 0==p
def Qb5(G:List (List Int))(P:List Int)(goals:List (List Int))(p:Int):Bool:=arcB G P p&&goals.all fun goal=>hitB P goal p
def Q1g(m:Nat)(P:List Int):Prop:=P.length=m∧∀v:Nat,v<m→0≤P.getD v 0∧P.getD v 0<(m:Int)
def Q2o(m:Nat)(l:List Int):Prop:=l.length≤100000∧∀x∈l,0≤x∧x<(m:Int)
theorem Q1v(s:List Bool)(i j:Nat)(a:Bool)(hi:i<s.length):(s.set i a).getD j false=if i=j then a else s.getD j false:=by
 rw[K1,List.getElem?_set,K1]
 by_cases h:i=j
 ·subst h;simp[hi]
 ·simp[h]
theorem Qer{m:Nat}(hm:m≤10000)(goals:Bool×List (Bool×List Int))(pb:Bool){P:List Int}(hP:Q1g m P)(n:Int)(b:Bool)(out:Bool×List Bool)(v:Nat)(hv:v<m)(t28:Bool×List (Bool×List Int))(t29 t30:Int)(r:Bool×List Int)(hr:r.2.length≤100000)(hw:∀w∈r.2,0≤w∧w<(m:Int))(d:Nat):∀(i:Nat) (F:List Bool),i+d=r.2.length→F.length=m→
  ∃F':List Bool,F6b goals (pb,P) n (b,F) out (v:Int) t28 t29 t30 r (r.2.length:Int) (i:Int)=some (b,F')∧F'.length=m∧∀p:Nat,p<m→F'.getD p false=(F.getD p false||(P.getD v 0==(p:Int)&&(r.2.drop i).any fun w=>P.getD w.toNat 0==(p:Int))):=by
 have hPl:=hP.1
 obtain⟨hv0,hv1⟩:=hP.2 v hv
 induction d with
 |zero=>intro i F hi hF;exact⟨F,by rw[F6bE,gF (by omega)],hF,fun p hp=>by rw[K8 (by omega)];simp⟩
 |succ d ih=>
  intro i F hi hF
  have hlt:i<r.2.length:=by omega
  have hx:=hw _ (K3 hlt)
  have step:F6b goals (pb,P) n (b,F) out (v:Int) t28 t29 t30 r (r.2.length:Int) (i:Int)=F6b goals (pb,P) n (b,F.set (P.getD v 0).toNat (F.getD (P.getD v 0).toNat false||(P.getD (r.2[i]).toNat 0==P.getD v 0))) out (v:Int) t28 t29 t30 r (r.2.length:Int) ((i+1:Nat):Int):=by
   rw[F6bE,gT (by omega),gT (by omega),gT (by omega),J2 r.2 _ i hlt,up1 i (by omega)]
   simp only[K5,J1]
   rw[gT (by omega),gT (by omega),gT (by omega),gT (by omega),gT hv0,gT (by omega)]
   cases hc:F.getD (P.getD v 0).toNat false with
   |true=>rw[cond_true,gT hv0,gT (by omega),Bool.true_or]
   |false=>rw[cond_false,gT hx.1,gT (by omega),gT (by omega),gT (by omega),gT hv0,gT (by omega),K27]
  obtain⟨F',f1,f2,f3⟩:=ih (i+1) (F.set (P.getD v 0).toNat (F.getD (P.getD v 0).toNat false||(P.getD (r.2[i]).toNat 0==P.getD v 0))) (by omega) (by rw[Ko];exact hF)
  refine⟨F',by rw[step,f1],f2,fun p hp=> ?_⟩
  rw[f3 p hp,Q1v _ _ _ _ (by omega),K2 hlt,List.any_cons]
  by_cases c:P.getD v 0=(p:Int)
  ·rw[if_pos (by omega),c,K5,beq_self_eq_true,Kz,Kz,Bool.or_assoc]
  ·rw[if_neg (by omega),beqF c,K1w,K1w]
theorem Qeq{m:Nat}{G:List (List Int)}(hG:Gr m G)(hs:∀l∈G,l.length≤2000)(goals:Bool×List (Bool×List Int))(pb:Bool){P:List Int}(hP:Q1g m P)(n:Int)(b nb:Bool)(out:Bool×List Bool){R:List (Bool×List Int)}(hR:R.map Prod.snd=G)(d:Nat):∀(i:Nat) (F:List Bool),i+d=m→F.length=m→
  ∃F':List Bool,F8h goals (pb,P) n (b,F) out (nb,R) (m:Int) (i:Int)=some (b,F')∧F'.length=m∧∀p:Nat,p<m→F'.getD p false=(F.getD p false||(List.range' i d).any fun v=>P.getD v 0==(p:Int)&&(G.getD v []).any fun w=>P.getD w.toNat 0==(p:Int)):=by
 have hsm:=hG.small
 have hRl:R.length=m:=by rw[←hG.len,←hR,Ki]
 induction d with
 |zero=>intro i F hi hF;exact⟨F,by rw[F8hE,gF (by omega)],hF,fun p hp=>by simp⟩
 |succ d ih=>
  intro i F hi hF
  obtain⟨r1,r2,r3⟩:=Q2a hR (k:=i) (by rw[hG.len];omega)
  have hsh:=hs _ r3
  obtain⟨F1,f1,f2,f3⟩:=Qer hsm goals pb hP n b out i (by omega) (nb,R) (m:Int) (i:Int) (R.getD i (true,[])) (by rw[r2];omega) (by rw[r2];exact hG.inn _ r3) (R.getD i (true,[])).2.length 0 F (by omega) hF
  have f1':F6b goals (pb,P) n (b,F) out (i:Int) (nb,R) (m:Int) (i:Int) (R.getD i (true,[])) ((R.getD i (true,[])).2.length :Int) 0=_:=f1
  obtain⟨F',g1,g2,g3⟩:=ih (i+1) F1 (by omega) f2
  refine⟨F',?_,g2,fun p hp=> ?_⟩
  ·rw[F8hE,gT (by omega),gT (by omega),gT (by simp only;omega),K5]
   simp only[f1',J0]
   rw[up1 i (by omega),J1,g1]
  ·rw[g3 p hp,f3 p hp,r2,Kf,K19,List.any_cons,Bool.or_assoc]
theorem Qet{m:Nat}(hm:m≤10000)(pb:Bool){P:List Int}(hP:Q1g m P)(n:Int)(fair out:Bool×List Bool)(b:Bool)(t67:Bool×List (Bool×List Int))(t68 t69:Int)(r:Bool×List Int)(hr:Q2o m r.2)(d:Nat):∀(i:Nat) (F:List Bool),i+d=r.2.length→F.length=m→
  ∃F':List Bool,F9w (pb,P) n fair out (b,F) t67 t68 t69 r (r.2.length:Int) (i:Int)=some (b,F')∧F'.length=m∧∀p:Nat,p<m→F'.getD p false=(F.getD p false||hitB P (r.2.drop i) (p:Int)):=by
 have hPl:=hP.1
 have hrl:=hr.1
 induction d with
 |zero=>intro i F hi hF;exact⟨F,by rw[F9wE,gF (by omega)],hF,fun p hp=>by rw[K8 (by omega)];simp[hitB]⟩
 |succ d ih=>
  intro i F hi hF
  have hlt:i<r.2.length:=by omega
  have hx:=hr.2 _ (K3 hlt)
  obtain⟨hv0,hv1⟩:=hP.2 (r.2[i]).toNat (by omega)
  obtain⟨F',f1,f2,f3⟩:=ih (i+1) (F.set (P.getD (r.2[i]).toNat 0).toNat true) (by omega) (by rw[Ko];exact hF)
  refine⟨F',?_,f2,fun p hp=> ?_⟩
  ·rw[F9wE,gT (by omega),gT (by omega),gT (by omega),J2 r.2 _ i hlt,up1 i (by omega),gT hx.1,gT (by simp only;omega),gT hv0,gT (by simp only;omega),J1,f1]
  ·rw[f3 p hp,Q1v _ _ _ _ (by omega),K2 hlt,hitB,hitB,List.any_cons]
   by_cases c:P.getD (r.2[i]).toNat 0=(p:Int)
   ·rw[if_pos (by omega),c,beq_self_eq_true,Bool.true_or,Bool.or_true]
   ·rw[if_neg (by omega),beqF c,K27]
theorem Qeu{m:Nat}(hm:m≤10000)(part:Bool×List Int)(n:Int)(out:Bool×List Bool)(b hb:Bool)(Q:List Bool)(hQ:Q.length=m)(t67:Bool×List (Bool×List Int))(t68 t69:Int)(d:Nat):∀(i:Nat) (F:List Bool),i+d=m→F.length=m→
  ∃F':List Bool,F6n part n (b,F) out (hb,Q) t67 t68 t69 (m:Int) (i:Int)=some (b,F')∧F'.length=m∧∀p:Nat,p<m→F'.getD p false=if i≤p then(F.getD p false&&Q.getD p false)else F.getD p false:=by
 induction d with
 |zero=>intro i F hi hF;exact⟨F,by rw[F6nE,gF (by omega)],hF,fun p hp=>by rw[if_neg (by omega)]⟩
 |succ d ih=>
  intro i F hi hF
  have step:F6n part n (b,F) out (hb,Q) t67 t68 t69 (m:Int) (i:Int)=F6n part n (b,F.set i (F.getD i false&&Q.getD i false)) out (hb,Q) t67 t68 t69 (m:Int) ((i+1:Nat):Int):=by
   rw[F6nE,gT (by omega),gT (by omega),gT (by simp only;omega),up1 i (by omega)]
   simp only[K5,J1]
   cases hc:F.getD i false with
   |true=>rw[cond_true,gT (by omega),gT (by omega),gT (by omega),gT (by omega),Kz]
   |false=>rw[cond_false,gT (by omega),gT (by omega),K1w]
  obtain⟨F',f1,f2,f3⟩:=ih (i+1) (F.set i (F.getD i false&&Q.getD i false)) (by omega) (by rw[Ko];exact hF)
  refine⟨F',by rw[step,f1],f2,fun p hp=> ?_⟩
  rw[f3 p hp,Q1v _ _ _ _ (by omega)]
  by_cases c:i=p
  ·subst c
   rw[if_neg (by omega),if_pos rfl,if_pos (Ky _)]
  ·by_cases c2:i+1≤p
   ·rw[if_pos c2,if_neg c,if_pos (by omega)]
   ·rw[if_neg c2,if_neg c,if_neg (by omega)]
theorem Qes{m:Nat}(hm:m≤10000)(pb:Bool){P:List Int}(hP:Q1g m P)(out:Bool×List Bool)(b gb:Bool)(Q:List (Bool×List Int))(hQ:∀r∈Q,Q2o m r.2)(hQl:Q.length≤100000)(d:Nat):∀(i:Nat) (F:List Bool),i+d=Q.length→F.length=m→
  ∃F':List Bool,F8j (pb,P) (m:Int) (b,F) out (gb,Q) (Q.length:Int) (i:Int)=some (b,F')∧F'.length=m∧∀p:Nat,p<m→F'.getD p false=(F.getD p false&&(Q.drop i).all fun r=>hitB P r.2 (p:Int)):=by
 have hlim:=J5
 induction d with
 |zero=>intro i F hi hF;exact⟨F,by rw[F8jE,gF (by omega)],hF,fun p hp=>by rw[K8 (by omega)];simp⟩
 |succ d ih=>
  intro i F hi hF
  have hlt:i<Q.length:=by omega
  have hr:=hQ _ (K3 hlt)
  obtain⟨F1,f1,f2,f3⟩:=Qet hm pb hP (m:Int) (b,F) out false (gb,Q) (Q.length:Int) (i:Int) Q[i] hr (Q[i]).2.length 0 (List.replicate m false) (by omega) (by simp)
  have f1':F9w (pb,P) (m:Int) (b,F) out (false,List.replicate m false) (gb,Q) (Q.length:Int) (i:Int) Q[i] ((Q[i]).2.length :Int) 0=_:=f1
  obtain⟨F2,g1,g2,g3⟩:=Qeu hm (pb,P) (m:Int) out b false F1 f2 (gb,Q) (Q.length:Int) (i:Int) m 0 F (by omega) hF
  have g1':F6n (pb,P) (m:Int) (b,F) out (false,F1) (gb,Q) (Q.length:Int) (i:Int) (m:Int) 0=_:=g1
  obtain⟨F',k1,k2,k3⟩:=ih (i+1) F2 (by omega) g2
  refine⟨F',?_,k2,fun p hp=> ?_⟩
  ·rw[F8jE,gT (by omega),gT (by omega),gT (by simp only;omega),gT (by omega),gT (by omega),gT (by omega),gT (by omega),J2 Q _ i hlt]
   simp only[K5,f1',J0,f2,hF,g1']
   rw[up1 i (by omega),J1,k1]
  ·have e0:(List.replicate m false).getD p false=false:=by
    rw[K1,K1z]
    split<;>rfl
   rw[k3 p hp,g3 p hp,if_pos (Nat.zero_le _),f3 p hp,e0,K27,Kf,K2 hlt,List.all_cons,Bool.and_assoc]
theorem Qco{m:Nat}(hm:m≤10000)(pb:Bool){P:List Int}(hP:Q1g m P)(b ob:Bool)(F:List Bool)(hF:F.length=m)(d:Nat):∀(i:Nat) (o:List Bool),i+d=m→o.length=m→
  ∃o':List Bool,F9v (pb,P) (b,F) (ob,o) (m:Int) (i:Int)=some (ob,o')∧o'.length=m∧∀v:Nat,v<m→o'.getD v false=if i≤v then F.getD (P.getD v 0).toNat false else o.getD v false:=by
 have hPl:=hP.1
 induction d with
 |zero=>intro i o hi ho;exact⟨o,by rw[F9vE,gF (by omega)],ho,fun p hp=>by rw[if_neg (by omega)]⟩
 |succ d ih=>
  intro i o hi ho
  obtain⟨hv0,hv1⟩:=hP.2 i (by omega)
  obtain⟨o',f1,f2,f3⟩:=ih (i+1) (o.set i (F.getD (P.getD i 0).toNat false)) (by omega) (by rw[Ko];exact ho)
  refine⟨o',?_,f2,fun p hp=> ?_⟩
  ·rw[F9vE,gT (by omega),gT (by omega),gT (by simp only;omega),up1 i (by omega),K5,gT hv0,gT (by simp only;omega),gT (by omega),gT (by simp only;omega),J1,f1]
  ·rw[f3 p hp,Q1v _ _ _ _ (by omega)]
   by_cases c:i=p
   ·subst c
    rw[if_neg (by omega),if_pos rfl,if_pos (Ky _)]
   ·by_cases c2:i+1≤p
    ·rw[if_pos c2,if_pos (by omega)]
    ·rw[if_neg c2,if_neg c,if_neg (by omega)]
theorem Qg1(m p:Nat):(List.replicate m false).getD p false=false:=by
 rw[K1,K1z]
 split<;>rfl
def Q6a(G:List (List Int))(P:List Int)(goals:List (List Int)):List Bool:=(List.range G.length).map fun v=>Qb5 G P goals (P.getD v 0)
theorem Q80{m:Nat}{G:List (List Int)}(h1:1≤m)(hG:Gr m G)(hs:∀l∈G,l.length≤2000)(nb:Bool){R:List (Bool×List Int)}(hR:R.map Prod.snd=G){pb:Bool}{P:List Int}(hP:Q1g m P)(e:F26 (nb,R)=some (pb,P))(gb:Bool)(Q:List (Bool×List Int))(hQ:∀r∈Q,Q2o m r.2)(hQl:Q.length≤100000):F4 (nb,R) (gb,Q)=some (false,Q6a G P (Q.map Prod.snd)):=by
 have hlim:=J5
 have hsm:=hG.small
 have hRl:R.length=m:=by rw[←hG.len,←hR,Ki]
 have hPl:=hP.1
 obtain⟨F1,a1,a2,a3⟩:=Qeq hG hs (gb,Q) pb hP (m:Int) false nb (false,List.replicate m false) hR m 0 (List.replicate m false) (by omega) (by simp)
 have a1':F8h (gb,Q) (pb,P) (m:Int) (false,List.replicate m false) (false,List.replicate m false) (nb,R) (m:Int) 0=_:=a1
 obtain⟨F2,b1,b2,b3⟩:=Qes hsm pb hP (false,List.replicate m false) false gb Q hQ hQl Q.length 0 F1 (by omega) a2
 have b1':F8j (pb,P) (m:Int) (false,F1) (false,List.replicate m false) (gb,Q) (Q.length:Int) 0=_:=b1
 obtain⟨F3,c1,c2,c3⟩:=Qco hsm pb hP false false F2 b2 m 0 (List.replicate m false) (by omega) (by simp)
 have c1':F9v (pb,P) (false,F2) (false,List.replicate m false) (m:Int) 0=_:=c1
 have eF:F3=Q6a G P (Q.map Prod.snd):=by
  apply List.ext_getElem (by rw[c2,Q6a,Ki,List.length_range,hG.len])
  intro v hv1 hv2
  obtain⟨q0,q1⟩:=hP.2 v (by omega)
  have:=c3 v (by omega)
  rw[if_pos (Nat.zero_le _),b3 _ (by omega),a3 _ (by omega),Qg1,K27,Kf,K1p q0]at this
  rw[K1,Kc hv1,Option.getD_some]at this
  simp only[Q6a,List.getElem_map,List.getElem_range]
  rw[this,Qb5,arcB,hG.len,K1c,List.all_map]
  rfl
 rw[F4E,e,J0]
 simp only[hRl,K5,K1n]
 rw[gT (by omega),gT (by omega),gT (by omega),gT (by omega),gT (by omega),gT (by omega),gT (by omega),gT (by omega),a1',J0]
 simp only[b1',J0,c1']
 rw[eF]
def Q5(G:List (List Int))(P:List Int):List (List Int):=(List.range G.length).map fun v=>(G.getD v []).filter fun w=>P.getD v 0==P.getD w.toNat 0
def Qo(G:List (List Int))(P:List Int)(own:Int):List (List Int):=(List.range G.length).map fun v=>(G.getD v []).filter fun w=>P.getD v 0==own&&P.getD w.toNat 0==own
theorem Qef{α:Type}{l:List α}{p q:α→Bool}(h:∀x∈l,p x=q x):l.any p=l.any q:=by
 induction l with
 |nil=>rfl
 |cons a l ih=>rw[List.any_cons,List.any_cons,h a Kk,ih fun x hx=>h x (K9 _ hx)]
theorem Q14(s:List (Bool×List Int))(i j:Nat)(a:Bool×List Int)(hi:i<s.length):(s.set i a).getD j (true,[])=if i=j then a else s.getD j (true,[]):=by
 rw[K1,List.getElem?_set,K1]
 by_cases h:i=j
 ·subst h;simp[hi]
 ·simp[h]
theorem Qar(m j:Nat):(List.replicate m ((true,[]):Bool×List Int)).getD j (true,[])=(true,[]):=by
 rw[K1,K1z]
 split<;>rfl

end Go.Proofs.YtedfhboklcfanaaGreat.R
