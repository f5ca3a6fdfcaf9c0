/- The plain law of FnExactEver:what the two functions compute is the same. -/
import Derived.Test.YtedfhboklcfanaaGreatUFnExactEverA
import Derived.Laws.MathBits
set_option linter.all false
namespace Go.Proofs.YtedfhboklcfanaaGreat.R
open Go.Rf
open Go.IntKind (i64 u64)
open Int (toNat)
theorem Qh8(o:List (List Int))(i:Nat)(v:Int)(hi:i<o.length):tot (o.set i (o.getD i []++[v]))=tot o+1:=by
 induction o generalizing i with
 |nil=>simp at hi
 |cons a o ih=>
  cases i with
  |zero=>simp[tot];omega
  |succ i=>
   have:=ih i (by simpa using hi);simp only[tot,List.set_cons_succ,K12,List.sum_cons,List.getD_cons_succ]at this⊢;omega
theorem Qc4(v:Int)(row:List Int):∀o:List (List Int),(∀w∈row,0≤w∧w<(o.length:Int))→
  (Q2m v row o).length =o.length∧tot (Q2m v row o)=tot o+row.length∧∀(j:Nat) (x:Int),x∈(Q2m v row o).getD j []↔x∈o.getD j []∨(x=v∧(j:Int)∈row):=by
 induction row with
 |nil=>intro o _;exact⟨rfl,rfl,fun j x=>by simp[Q2m]⟩
 |cons w row ih=>
  intro o hw;have h0:=hw w Kk;obtain⟨g1,g2,g3⟩:=ih (o.set w.toNat (o.getD w.toNat []++[v])) (fun x hx=>by rw[Km];exact hw x (K9 _ hx));refine⟨by rw[Q2m,K17];rw[Q2m]at g1;rw[g1,Km],?_,fun j x=> ?_⟩
  ·rw[Q2m,K17];rw[Q2m]at g2;rw[g2,Qh8 _ _ _ (by omega),Kq];omega
  ·rw[Q2m,K17];have:=g3 j x;rw[Q2m]at this;rw[this,Q5o o _ _ _ (by omega)]
   by_cases e:w.toNat=j
   ·have e2:(j:Int)=w:=by omega
    rw[if_pos e,e,Kl,Kn,Kd];constructor
    ·rintro((h|h)|⟨h,h2⟩)
     ·exact .inl h
     ·exact .inr ⟨h,.inl e2⟩
     ·exact .inr ⟨h,.inr h2⟩
    ·rintro(h|⟨h,h2⟩)
     ·exact .inl (.inl h)
     ·exact .inl (.inr h)
   ·have e2:(j:Int)≠w:=by omega
    rw[if_neg e,Kd];constructor
    ·rintro(h|⟨h,h2⟩)
     ·exact .inl h
     ·exact .inr ⟨h,.inr h2⟩
    ·rintro(h|⟨h,h2⟩)
     ·exact .inl h
     ·exact .inr ⟨h,h2.resolve_left e2⟩
theorem Q1n(g:List (List Int))(hg:∀l∈g,∀w∈l,0≤w∧w<(g.length:Int))(n:Nat)(hn:n≤g.length):
  ((List.range n).foldl (fun o (v:Nat)=>Q2m (v:Int) (g.getD v []) o) (List.replicate g.length [])).length =g.length∧
  tot ((List.range n).foldl (fun o (v:Nat)=>Q2m (v:Int) (g.getD v []) o) (List.replicate g.length []))≤tot (g.take n)∧
  ∀(j:Nat) (x:Int),x∈((List.range n).foldl (fun o (v:Nat)=>Q2m (v:Int) (g.getD v []) o) (List.replicate g.length [])).getD j []↔∃v:Nat,v<n∧x=(v:Int)∧(j:Int)∈g.getD v []:=by
 induction n with
 |zero=>
  refine⟨by simp,?_,fun j x=> ?_⟩
  ·have:∀k,tot (List.replicate k ([]:List Int))=0:=by
    intro k
    induction k with
    |zero=>rfl
    |succ k ih=>simp only[tot,List.replicate_succ,K12,List.sum_cons,K1m,K1o]at ih⊢;exact ih
   simp only[List.range_zero,List.foldl_nil,this];exact Nat.zero_le _
  ·constructor
   ·intro h;rw[List.range_zero,List.foldl_nil,K1,K21]at h;split at h<;>simp at h
   ·rintro⟨v,h,_⟩;omega
 |succ n ih=>
  obtain⟨h1,h2,h3⟩:=ih (by omega)
  have hlt:n<g.length:=by omega
  have e:g.getD n []=g[n]:=by simp[K1,hlt]
  rw[List.range_succ,List.foldl_append,K17,List.foldl_nil];obtain⟨g1,g2,g3⟩:=Qc4 (n:Int) (g.getD n []) _ (fun w hw=>by rw[h1];exact hg _ (by rw[e];exact K4 hlt) w hw);refine⟨by rw[g1,h1],?_,fun j x=> ?_⟩
  ·rw[g2,K1f hlt,e];simp only[tot,List.map_append,List.sum_append,K12,List.map_nil,List.sum_cons,List.sum_nil]at h2⊢;omega
  ·rw[g3,h3];constructor
   ·rintro(⟨v,q1,q2,q3⟩|⟨q1,q2⟩)
    ·exact⟨v,by omega,q2,q3⟩
    ·exact⟨n,by omega,q1,q2⟩
   ·rintro⟨v,q1,q2,q3⟩
    by_cases hv:v=n
    ·subst hv;exact .inr ⟨q2,q3⟩
    ·exact .inl ⟨v,by omega,q2,q3⟩
theorem Q81(o:List (List Int)):∀l∈o,l.length≤tot o:=by
 intro l hl
 induction o with
 |nil=>cases hl
 |cons a o ih=>
  simp only[tot,K12,List.sum_cons]
  rcases Kd.1 hl with rfl|hl
  ·omega
  ·have:=ih hl;simp only[tot]at this;omega
theorem Qk4(o:List (List Int))(B:Nat)(h:∀l∈o,l.length≤B):tot o≤o.length*B:=by
 induction o with
 |nil=>simp[tot]
 |cons a o ih=>
  have h1:=h a Kk
  have h2:=ih fun l hl=>h l (K9 _ hl)
  simp only[tot,K12,List.sum_cons,Kq,Nat.succ_mul]at h2⊢;omega
theorem Q2i{g:List (List Int)}(hg:∀l∈g,∀w∈l,0≤w∧w<(g.length:Int))(j:Nat)(x:Int):x∈(Qn g).getD j []↔∃v:Nat,v<g.length∧x=(v:Int)∧(j:Int)∈g.getD v []:=(Q1n g hg g.length (Kz _)).2.2 j x
theorem Q64{m:Nat}{g:List (List Int)}(hG:Gr m g)(hs:∀l∈g,l.length≤2000):Gr m (Qn g):=by
 have hg:∀l∈g,∀w∈l,0≤w∧w<(g.length:Int):=by rw[hG.len];exact hG.inn
 obtain⟨h1,h2,h3⟩:=Q1n g hg g.length (Kz _);have hsm:=hG.small;refine⟨by rw[←hG.len];exact h1,fun l hl w hw=> ?_,fun l hl=> ?_,hsm⟩
 ·obtain⟨j,hj,rfl⟩:=List.getElem_of_mem hl
  have e:(Qn g).getD j []=(Qn g)[j]:=by simp[K1,hj]
  rw[←e]at hw;obtain⟨v,hv,rfl,_⟩:=(Q2i hg j w).1 hw;rw[←hG.len];exact⟨Int.natCast_nonneg _,by omega⟩
 ·have q1:=Q81 _ l hl;have q2:=Qk4 g 2000 hs;rw[K1d (Kz _)]at h2;have q3:tot (Qn g)≤tot g:=h2;rw[hG.len]at q2;have:m*2000≤10000*2000:=Kr _ hsm;omega
theorem Qhd(t11:DRI)(t12:Int)(t13:Int)(v:Int)(b:Bool)(m:Nat)(hm:m≤10000)(r:DLI)(hr:r.2.length≤20000000)(hw:∀w∈r.2,0≤w∧w<(m:Int))(d:Nat):∀(i:Nat) (R:List DLI),i+d=r.2.length→R.length=m→tot (R.map Prod.snd)+d≤200000000→
  ∃R':List DLI,R'.length=m∧R'.map Prod.snd=Q2m v (r.2.drop i) (R.map Prod.snd)∧Fc2 (b,R) v t11 t12 t13 r (r.2.length:Int) (i:Int)=some (b,R')∧F99 (b,R) v t11 t12 t13 r (r.2.length:Int) (i:Int)=some (b,R'):=by
 have hlim:=J4
 induction d with
 |zero=>
  intro i R hi hR ht;exact⟨R,hR,by rw[K8 (by omega)];rfl,by rw[Fc2E,gFo],by rw[F99E,gFo]⟩
 |succ d ih=>
  intro i R hi hR ht
  have hlt:i<r.2.length:=by omega
  have hx:=hw _ (K4 hlt)
  have hj:toNat r.2[i]<R.length:=by omega
  have hrow:((R.getD (toNat r.2[i]) (true,[])).2).length ≤tot (R.map Prod.snd):=by
   refine Q81 _ _ (Kx.2 ⟨R.getD (toNat r.2[i]) (true,[]),?_,rfl⟩)
   have e:R.getD (toNat r.2[i]) (true,[])=R[toNat r.2[i]]:=by simp[K1,hj]
   rw[e];exact K4 _
  have esnd:(R.map Prod.snd).getD (toNat r.2[i]) []=(R.getD (toNat r.2[i]) (true,[])).2 :=by simp[K1,hj]
  have emap:(R.set (toNat r.2[i]) ((R.getD (toNat r.2[i]) (true,[])).1 &&false,(R.getD (toNat r.2[i]) (true,[])).2 ++[v])).map Prod.snd=(R.map Prod.snd).set (toNat r.2[i]) ((R.map Prod.snd).getD (toNat r.2[i]) []++[v]):=by
   rw[List.map_set,esnd]
  have htot:tot ((R.set (toNat r.2[i]) ((R.getD (toNat r.2[i]) (true,[])).1 &&false,(R.getD (toNat r.2[i]) (true,[])).2 ++[v])).map Prod.snd)=tot (R.map Prod.snd)+1:=by
   rw[emap];exact Qh8 _ _ _ (by simpa using hj)
  obtain⟨R',g1,g2,g3,g4⟩:=ih (i+1) (R.set (toNat r.2[i]) ((R.getD (toNat r.2[i]) (true,[])).1 &&false,(R.getD (toNat r.2[i]) (true,[])).2 ++[v])) (by omega) (by rw[Km];exact hR) (by rw[htot];omega);refine⟨R',g1,?_,?_,?_⟩
  ·rw[g2,emap,K2 hlt,Q2m,Q2m,K17]
  ·rw[Fc2E,gTo,gTo,gTo,J2 r.2 _ i hlt,gT hx.1,gTs,gT (by simp only[K1c];omega),gT hx.1,gTs,bT (by simp),up1o i,J1,g3]
  ·rw[F99E,gTo,gTo,gTo,J2 r.2 _ i hlt,gT hx.1,gTs,gT (by simp only[K1c];omega),gT hx.1,gTs,bT (by simp),up1o i,J1,g4]
theorem Q4i{m:Nat}{G:List (List Int)}(hG:Gr m G)(hs:∀l∈G,l.length≤2000)(gb:Bool){R:List DLI}(hR:R.map Prod.snd=G):∃R':List DLI,R'.map Prod.snd=Qn G∧F1l (gb,R)=some (false,R')∧F1g (gb,R)=some (false,R'):=by
 have hlim:=J4;have hsm:=hG.small
 have hRl:R.length=m:=by rw[←hG.len,←hR,Kh]
 have hg:∀l∈G,∀w∈l,0≤w∧w<(G.length:Int):=by rw[hG.len];exact hG.inn
 have ht:∀n,n≤m→tot (G.take n)≤20000000:=by
  intro n hn
  have q:=Qk4 (G.take n) 2000 fun l hl=>hs l (List.mem_of_mem_take hl)
  have q2:(G.take n).length ≤10000:=by rw[K1s,hG.len];omega
  have:(G.take n).length *2000≤10000*2000:=Kr _ q2;omega
 have key:∀(d i:Nat) (Q:List DLI),i+d=m→Q.length=m→Q.map Prod.snd=(List.range i).foldl (fun o (v:Nat)=>Q2m (v:Int) (G.getD v []) o) (List.replicate G.length [])→
   ∃R':List DLI,R'.map Prod.snd=Qn G∧Fbb (false,Q) (gb,R) (m:Int) (i:Int)=some (false,R')∧F9u (false,Q) (gb,R) (m:Int) (i:Int)=some (false,R'):=by
  intro d
  induction d with
  |zero=>
   intro i Q hi hQ hq
   obtain rfl:i=m:=by omega
   exact⟨Q,by rw[hq,Qn,hG.len],by rw[FbbE,gFo],by rw[F9uE,gFo]⟩
  |succ d ih=>
   intro i Q hi hQ hq
   have hlt:i<G.length:=by rw[hG.len];omega
   obtain⟨r1,r2,r3⟩:=Q2x hR hlt;obtain⟨f1,f2,_⟩:=Q1n G hg i (by omega);have hti:=ht i (by omega);have hsh:=hs _ r3;obtain⟨Q',g1,g2,g3,g4⟩:=Qhd (gb,R) (m:Int) (i:Int) (i:Int) false m hsm (R.getD i (true,[])) (by rw[r2];omega) (by rw[r2];exact hG.inn _ r3) (R.getD i (true,[])).2.length 0 Q (by omega) hQ (by rw[hq,r2];omega);have g3':Fc2 (false,Q) (i:Int) (gb,R) (m:Int) (i:Int) (R.getD i (true,[])) ((R.getD i (true,[])).2.length :Int) 0=_:=g3;have g4':F99 (false,Q) (i:Int) (gb,R) (m:Int) (i:Int) (R.getD i (true,[])) ((R.getD i (true,[])).2.length :Int) 0=_:=g4;obtain⟨R',k1,k2,k3⟩:=ih (i+1) Q' (by omega) g1 (by rw[g2,Kg,r2,hq,List.range_succ,List.foldl_append];rfl);refine⟨R',k1,?_,?_⟩
   ·rw[FbbE,gTo,gTo,gTs,K3];simp only[g3',J0];rw[up1o i,J1,k2]
   ·rw[F9uE,gTo,gTo,gTs,K3];simp only[g4',J0];rw[up1o i,J1,k3]
 have hrep:(List.replicate m ((true,[]):DLI)).map Prod.snd=List.replicate m []:=by simp
 obtain⟨R',k1,k2,k3⟩:=key m 0 (List.replicate m (true,[])) (by omega) (by simp) (by rw[hrep,hG.len];rfl);have k2':Fbb (false,List.replicate m (true,[])) (gb,R) (m:Int) 0=_:=k2;have k3':F9u (false,List.replicate m (true,[])) (gb,R) (m:Int) 0=_:=k3;refine⟨R',k1,?_,?_⟩
 ·rw[F1lE];simp only[hRl,K3];rw[gTo,gTo,gTo,gTo,k2',J0]
 ·rw[F1gE];simp only[hRl,K3];rw[gTo,gTo,gTo,gTo,k3',J0]
def Q15(s:List Int)(best v:Int):Int:=if s.getD v.toNat 0≥0 then(if best<0 then v else if s.getD v.toNat 0<s.getD best.toNat 0 then v else best)else best
def Q1g(s l:List Int):Int:=l.foldl (Q15 s) (-1)
theorem Q9c(g:DRI)(b:Bool)(s:List Int)(l:DLI)(hl:l.2.length≤1048576)(hw:∀w∈l.2,0≤w∧w<(s.length:Int)):
  F5g g (b,s) (-1) l (l.2.length:Int) 0=some (Q1g s l.2)∧F5k g (b,s) (-1) l (l.2.length:Int) 0=some (Q1g s l.2)∧(Q1g s l.2<0∨(Q1g s l.2<(s.length:Int)∧0≤s.getD (Q1g s l.2).toNat 0)):=by
 have hin:∀(i:Nat) (h:i<l.2.length) (best:Int),(best<0∨(best<(s.length:Int)∧0≤s.getD best.toNat 0))→(Q15 s best l.2[i]<0∨(Q15 s best l.2[i]<(s.length:Int)∧0≤s.getD (Q15 s best l.2[i]).toNat 0)):=by
  intro i h best hb;have hx:=hw _ (K4 h);unfold Q15;split
  ·split
   ·exact .inr ⟨hx.2,by omega⟩
   ·split
    ·exact .inr ⟨hx.2,by omega⟩
    ·exact hb
  ·exact hb
 refine⟨?_,?_,?_⟩
 ·exact Jy l.2 (Q15 s) (fun b=>b) (fun best i=>F5g g (b,s) best l (l.2.length:Int) i) (fun _ best=>best<0∨(best<(s.length:Int)∧0≤s.getD best.toNat 0)) (fun i h best hb=>by
   have hx:=hw _ (K4 h);refine⟨?_,hin i h best hb⟩;rw[F5gE,gTo,gTo,gTo,J2 l.2 _ i h,gT hx.1,gTs,up1o i];unfold Q15
   by_cases c1:s.getD (toNat l.2[i]) 0≥0
   ·rw[gT c1,if_pos c1]
    by_cases c2:best<0
    ·rw[gT c2,if_pos c2,J1]
    ·have hb2:=hb.resolve_left c2;rw[gF c2,if_neg c2,gT hx.1,gTs,gTo,gTs]
     by_cases c3:s.getD (toNat l.2[i]) 0<s.getD (toNat best) 0
     ·rw[gT c3,if_pos c3,J1]
     ·rw[gF c3,if_neg c3,J1]
   ·rw[gF c1,if_neg c1,J1]) (fun best _=>by rw[F5gE,gFo]) (-1) (.inl (by decide))
 ·exact Jy l.2 (Q15 s) (fun b=>b) (fun best i=>F5k g (b,s) best l (l.2.length:Int) i) (fun _ best=>best<0∨(best<(s.length:Int)∧0≤s.getD best.toNat 0)) (fun i h best hb=>by
   have hx:=hw _ (K4 h);refine⟨?_,hin i h best hb⟩;rw[F5kE,gTo,gTo,gTo,J2 l.2 _ i h,gT hx.1,gTs,up1o i];unfold Q15
   by_cases c1:s.getD (toNat l.2[i]) 0≥0
   ·rw[gT c1,if_pos c1]
    by_cases c2:best<0
    ·rw[gT c2,if_pos c2,J1]
    ·have hb2:=hb.resolve_left c2;rw[gF c2,if_neg c2,gT hx.1,gTs,gTo,gTs]
     by_cases c3:s.getD (toNat l.2[i]) 0<s.getD (toNat best) 0
     ·rw[gT c3,if_pos c3,J1]
     ·rw[gF c3,if_neg c3,J1]
   ·rw[gF c1,if_neg c1,J1]) (fun best _=>by rw[F5kE,gFo]) (-1) (.inl (by decide))
 ·have key:∀(l:List Int),(∀w∈l,0≤w∧w<(s.length:Int))→∀best:Int,(best<0∨(best<(s.length:Int)∧0≤s.getD best.toNat 0))→(l.foldl (Q15 s) best<0∨(l.foldl (Q15 s) best<(s.length:Int)∧0≤s.getD (l.foldl (Q15 s) best).toNat 0)):=by
   intro l
   induction l with
   |nil=>intro _ best h;exact h
   |cons a l ih=>
    intro hw best hb;rw[K17];refine ih (fun w h=>hw w (K9 _ h)) _ ?_;have hx:=hw a Kk;unfold Q15;split
    ·split
     ·exact .inr ⟨hx.2,by omega⟩
     ·split
      ·exact .inr ⟨hx.2,by omega⟩
      ·exact hb
    ·exact hb
  exact key l.2 hw (-1) (.inl (by decide))
def Q2j(g:List (List Int))(s:List Int)(v:Int):Int:=((g.getD v.toNat []).find? fun w=>s.getD w.toNat 0==s.getD v.toNat 0-1).getD v
def wayL(g:List (List Int))(s:List Int):Nat→Int→List Int→List Int
 |0,_,out=>out
 |n+1,v,out=>if s.getD v.toNat 0>0 then wayL g s n (Q2j g s v) (out++[Q2j g s v])else out
theorem Qky(nx:DRI)(b:Bool)(s:List Int)(best:Int)(hb:0≤best∧best<(s.length:Int))(h0: -10≤s.getD best.toNat 0∧s.getD best.toNat 0≤200000000)(out:DLI)(r:DLI)(hr:r.2.length≤20000000)(hw:∀w∈r.2,0≤w∧w<(s.length:Int))(d:Nat):∀(i:Nat),i+d=r.2.length→
  F9i nx (b,s) best out r (r.2.length:Int) (i:Int)=some (((r.2.drop i).find? fun w=>s.getD w.toNat 0==s.getD best.toNat 0-1).getD best):=by
 induction d with
 |zero=>
  intro i hi;rw[F9iE,gFo,K8 (by omega)];rfl
 |succ d ih=>
  intro i hi
  have hlt:i<r.2.length:=by omega
  have hx:=hw _ (K4 hlt);rw[F9iE,gTo,gTo,gTo,J2 r.2 _ i hlt,gT hx.1,gTs,gT hb.1,gTs,wr (by simp only;omega),up1o i,K2 hlt,List.find?_cons];simp only
  cases hh:(s.getD (toNat r.2[i]) 0==s.getD (toNat best) 0-1)with
  |true=>rfl
  |false=>rw[cond_false,J1,ih (i+1) (by omega)]
theorem Q4a{l:List Int}{i:Nat}(h:i<l.length):l.getD i 0=l[i]:=by simp[K1,h]
theorem Qcj{α:Type}(q:α→Bool)(l:List α)(h:l.findIdx q<l.length):l.find? q=some (l[l.findIdx q]'h):=by
 induction l with
 |nil=>simp at h
 |cons a l ih=>
  rw[List.find?_cons]
  cases hq:q a with
  |true=>simp[List.findIdx_cons,hq]
  |false=>
   simp only[List.findIdx_cons,hq,cond_false,Kq]at h⊢;rw[ih (by omega)];rfl
theorem Qdv(s:List Int)(b:Bool)(best:Int)(hb:0≤best∧best<(s.length:Int))(h0: -10≤s.getD best.toNat 0∧s.getD best.toNat 0≤200000000)(r:DLI)(hr:r.2.length≤20000000)(hw:∀w∈r.2,0≤w∧w<(s.length:Int))(hex:∃u∈r.2,s.getD u.toNat 0=s.getD best.toNat 0-1):
  ∃k:Nat,k<r.2.length∧F4q r ((b,s),(best,()))=some (k:Int)∧r.2.getD k 0=(r.2.find? fun w=>s.getD w.toNat 0==s.getD best.toNat 0-1).getD best∧r.2.getD k 0∈r.2∧s.getD (r.2.getD k 0).toNat 0=s.getD best.toNat 0-1:=by
 have h:=Ja r.2 (fun w=>s.getD w.toNat 0==s.getD best.toNat 0-1) (fun i=>Fah r ((b,s),(best,())) (r.2.length:Int) i) (fun i hi=>by
  have hx:=hw _ (K4 hi)
  rw[FahE,gTo,gTo,gTo,J2 r.2 _ i hi,F72E,gT hx.1,gTs,gT hb.1,gTs,wr (by simp only;omega),J0,up1o i,J1]) (by rw[FahE,gFo])
 obtain⟨u,hu,hu2⟩:=hex;have hany:(r.2.any fun w=>s.getD w.toNat 0==s.getD best.toNat 0-1)=true:=Ku.2 ⟨u,hu,by rw[beq_iff_eq];exact hu2⟩;have hk:r.2.findIdx (fun w=>s.getD w.toNat 0==s.getD best.toNat 0-1)<r.2.length:=List.findIdx_lt_length.2 (Ku.1 hany);have hg:=List.findIdx_getElem (p:=fun w:Int=>s.getD w.toNat 0==s.getD best.toNat 0-1) (xs:=r.2) (w:=hk);refine⟨_,hk,?_,?_,?_,?_⟩
 ·rw[F4qE];show((Fah r ((b,s),(best,())) (r.2.length:Int) 0).bind _)=_;rw[h,hany];rfl
 ·have e:r.2.getD (r.2.findIdx fun w=>s.getD w.toNat 0==s.getD best.toNat 0-1) 0=r.2[r.2.findIdx fun w=>s.getD w.toNat 0==s.getD best.toNat 0-1]:=Q4a hk;rw[e];have:=Qcj (fun w:Int=>s.getD w.toNat 0==s.getD best.toNat 0-1) r.2 hk;rw[this];rfl
 ·have e:r.2.getD (r.2.findIdx fun w=>s.getD w.toNat 0==s.getD best.toNat 0-1) 0=r.2[r.2.findIdx fun w=>s.getD w.toNat 0==s.getD best.toNat 0-1]:=Q4a hk;rw[e];exact K4 _
 ·have e:r.2.getD (r.2.findIdx fun w=>s.getD w.toNat 0==s.getD best.toNat 0-1) 0=r.2[r.2.findIdx fun w=>s.getD w.toNat 0==s.getD best.toNat 0-1]:=Q4a hk;rw[e];exact beq_iff_eq.1 hg
theorem Q98{m:Nat}{G:List (List Int)}(hG:Gr m G)(gb gb2:Bool){R R2:List DLI}(hR:R.map Prod.snd=G)(hR2:R2.map Prod.snd=G)(s:List Int)(hs:s.length=m)(hlo:∀e∈s,-1≤e∧e≤10000)(hP:∀v:Nat,v<m→0<s.getD v 0→∃u∈G.getD v [],s.getD u.toNat 0=s.getD v 0-1)(n:Nat):∀(v:Int) (out:List Int) (b b2:Bool),0≤v∧v<(m:Int)→s.getD v.toNat 0≤n→out.length+n≤200000000→
  Fce (gb,R) (b,s) (false,out) v=some (false,wayL G s n v out)∧Fbd (gb2,R2) (b2,s) v (false,out)=some (false,wayL G s n v out)∧(wayL G s n v out).length ≤out.length+n:=by
 have hlim:=J4;have hsm:=hG.small
 induction n with
 |zero=>
  intro v out b b2 hv hn ho;refine⟨?_,?_,Kz _⟩
  ·rw[FceE,gT hv.1,gTs,gF (by simp only;omega)];rfl
  ·rw[FbdE,gT hv.1,gTs,gF (by simp only;omega)];rfl
 |succ n ih=>
  intro v out b b2 hv hn ho
  by_cases c:s.getD v.toNat 0>0
  ·have hvl:v.toNat<s.length:=by omega
   have hb:=hlo _ (Q3q hvl)
   have hvG:v.toNat<G.length:=by rw[hG.len];omega
   obtain⟨r1,r2,r3⟩:=Q2x hR hvG;obtain⟨r4,r5,_⟩:=Q2x hR2 hvG;have hin:=hG.inn _ r3;have hsh:=hG.short _ r3
   have hRl:R.length=m:=by rw[←hG.len,←hR,Kh]
   have hRl2:R2.length=m:=by rw[←hG.len,←hR2,Kh]
   obtain⟨u,hu,hu2⟩:=hP v.toNat (by omega) c;obtain⟨k,k1,k2,k3,k4,k5⟩:=Qdv s b v (by omega) (by omega) (R.getD v.toNat (true,[])) (by rw[r2];exact hsh) (by rw[r2];intro w hw;have:=hin w hw;omega) (by rw[r2];exact⟨u,hu,hu2⟩)
   have hnear:Q2j G s v=(R.getD v.toNat (true,[])).2.getD k 0:=by
    rw[k3,r2];rfl
   rw[r2]at k4;have hnin:=hin _ k4
   have hval:s.getD (Q2j G s v).toNat 0=s.getD v.toNat 0-1:=by rw[hnear];exact k5
   have hnn:0≤Q2j G s v∧Q2j G s v<(m:Int):=by rw[hnear,r2];exact hnin
   obtain⟨i1,i2,i3⟩:=ih (Q2j G s v) (out++[Q2j G s v]) b b2 hnn (by omega) (by simp;omega)
   have ew:wayL G s (n+1) v out=wayL G s n (Q2j G s v) (out++[Q2j G s v]):=by rw[wayL,if_pos c]
   rw[ew];refine⟨?_,?_,by simp at i3;omega⟩
   ·rw[FceE,gT hv.1,gTs,gT c,gT hv.1,gTs,k2,J0,gT hv.1,gTs,gTo,gTs,K3,←hnear,gT (by simp;omega),J1,K26,i1]
   ·have e4:=Qky (gb2,R2) b2 s v (by omega) (by omega) (false,out) (R2.getD v.toNat (true,[])) (by rw[r5];exact hsh) (by rw[r5];intro w hw;have:=hin w hw;omega) (R2.getD v.toNat (true,[])).2.length 0 (by omega);rw[Kg]at e4
    have e4':F9i (gb2,R2) (b2,s) v (false,out) (R2.getD v.toNat (true,[])) ((R2.getD v.toNat (true,[])).2.length :Int) 0=some (Q2j G s v):=by
     refine Eq.trans e4 ?_;rw[r5];rfl
    rw[FbdE,gT hv.1,gTs,gT c,gT hv.1,gTs];simp only[e4',J0];rw[gT (by simp;omega),J1,K26,i2]
  ·have ew:wayL G s (n+1) v out=out:=by rw[wayL,if_neg c]
   rw[ew];refine⟨?_,?_,by omega⟩
   ·rw[FceE,gT hv.1,gTs,gF c]
   ·rw[FbdE,gT hv.1,gTs,gF c]
def Q1k(G:List (List Int))(from_ to:List Int):Option (List Int):=
 let s:=farL (Qn G) to
 if Q1g s from_<0 then none else some (wayL G s G.length (Q1g s from_) [Q1g s from_])
theorem Q2h{m:Nat}{G:List (List Int)}(hG:Gr m G)(hs:∀l∈G,l.length≤2000)(hm:1≤m)(gb gb2 fb fb2 tb:Bool){R R2:List DLI}(hR:R.map Prod.snd=G)(hR2:R2.map Prod.snd=G)(fr to:List Int)(hf:fr.length≤10000)(hfw:∀w∈fr,0≤w∧w<(m:Int))(ht:to.length≤10000)(htw:∀w∈to,0≤w∧w<(m:Int))(ob:Bool)(hob:ob=true→to=[]):
  Fm (gb,R) (fb,fr) (ob,to)=some (match Q1k G fr to with
   |some l=>(false,l)
   |none=>(true,[]))∧Fl (gb2,R2) (fb2,fr) (tb,to)=some (match Q1k G fr to with
   |some l=>((false,l),true)
   |none=>((true,[]),false))∧∀l,Q1k G fr to=some l→l.length≤100000:=by
 have hT:=Q64 hG hs;have hsm:=hG.small
 have hg:∀l∈G,∀w∈l,0≤w∧w<(G.length:Int):=by rw[hG.len];exact hG.inn
 obtain⟨Q,q1,q2,_⟩:=Q4i hG hs gb hR;obtain⟨Q2,p1,_,p3⟩:=Q4i hG hs gb2 hR2;have e1:=Q85 hT hm false q1 to ht htw ob hob;have e2:=Qju hT false tb p1 to ht htw;have hI:=Qch hT to ht htw;have hP:=Q9p hT to htw;have hlen:=hI.len;obtain⟨b1,_,b3⟩:=Q9c (gb,R) false (farL (Qn G) to) (fb,fr) (by simp only;omega) (by rw[hlen];exact hfw);obtain⟨_,b2,_⟩:=Q9c (gb2,R2) false (farL (Qn G) to) (fb2,fr) (by simp only;omega) (by rw[hlen];exact hfw)
 have hlo:∀e∈farL (Qn G) to,-1≤e∧e≤10000:=fun e he=>⟨hI.low e he,by have:=hI.high e he;omega⟩
 have hP2:∀v:Nat,v<m→0<(farL (Qn G) to).getD v 0→∃u∈G.getD v [],(farL (Qn G) to).getD u.toNat 0=(farL (Qn G) to).getD v 0-1:=by
  intro v hv h0;obtain⟨u,u1,u2,u3⟩:=hP v (by omega) h0;obtain⟨v',_,hv2,hv3⟩:=(Q2i hg u (v:Int)).1 u2
  have:v'=v:=by omega
  subst this;exact⟨(u:Int),hv3,by rw[K3];exact u3⟩
 have hbest:∀(c:¬Q1g (farL (Qn G) to) fr<0),0≤Q1g (farL (Qn G) to) fr∧Q1g (farL (Qn G) to) fr<(m:Int)∧(farL (Qn G) to).getD (Q1g (farL (Qn G) to) fr).toNat 0≤(m:Int):=by
  intro c;have h2:=b3.resolve_left c;have hmem:=Q3q (s:=farL (Qn G) to) (i:=(Q1g (farL (Qn G) to) fr).toNat) (by simp only at h2;omega);have:=hI.high _ hmem;simp only at h2;exact⟨by omega,by omega,by omega⟩
 have e1':Fu (false,Q) (ob,to)=_:=e1;refine⟨?_,?_,?_⟩
 ·rw[FmE,q2,J0,e1',J0,b1,J0,Q1k];simp only
  by_cases c:Q1g (farL (Qn G) to) fr<0
  ·rw[gT c,if_pos c]
  ·obtain⟨w0,w1,w2⟩:=hbest c;obtain⟨i1,_,_⟩:=Q98 hG gb gb2 hR hR2 (farL (Qn G) to) hlen hlo hP2 m (Q1g (farL (Qn G) to) fr) [Q1g (farL (Qn G) to) fr] false false ⟨w0,w1⟩ w2 (by simp;omega);rw[gF c,if_neg c,i1,J0,hG.len]
 ·rw[FlE,p3,J0,e2,J0,b2,J0,Q1k];simp only
  by_cases c:Q1g (farL (Qn G) to) fr<0
  ·rw[gT c,if_pos c]
  ·obtain⟨w0,w1,w2⟩:=hbest c;obtain⟨_,i2,_⟩:=Q98 hG gb gb2 hR hR2 (farL (Qn G) to) hlen hlo hP2 m (Q1g (farL (Qn G) to) fr) [Q1g (farL (Qn G) to) fr] false false ⟨w0,w1⟩ w2 (by simp;omega);rw[gF c,if_neg c,i2,J0,hG.len]
 ·intro l hl;unfold Q1k at hl
  by_cases c:Q1g (farL (Qn G) to) fr<0
  ·rw[if_pos c]at hl;cases hl
  ·rw[if_neg c,hG.len]at hl;obtain⟨w0,w1,w2⟩:=hbest c;obtain⟨_,_,i3⟩:=Q98 hG gb gb2 hR hR2 (farL (Qn G) to) hlen hlo hP2 m (Q1g (farL (Qn G) to) fr) [Q1g (farL (Qn G) to) fr] false false ⟨w0,w1⟩ w2 (by simp;omega);rw[←Option.some.inj hl];simp at i3;omega
def Qj(op:Int):Int:=if op=1∨op=2 then 0 else if op=3∨op=4 then 1 else if 5≤op∧op≤8 then 2 else -1
theorem Qay(a b:Int):(a==b)=decide (a=b):=rfl
theorem Q3y(op:Int):F65 op=some (Qj op):=by
 rw[F65E,Qj]
 by_cases h:1≤op∧op≤8
 ·have:op=1∨op=2∨op=3∨op=4∨op=5∨op=6∨op=7∨op=8:=by omega
  rcases this with rfl|rfl|rfl|rfl|rfl|rfl|rfl|rfl<;>rfl
 ·rw[beqF (show¬op=1 by omega),beqF (show¬op=2 by omega),beqF (show¬op=3 by omega),beqF (show¬op=4 by omega),beqF (show¬op=5 by omega),beqF (show¬op=6 by omega),beqF (show¬op=7 by omega),beqF (show¬op=8 by omega),if_neg (by omega),if_neg (by omega),if_neg (by omega)];rfl
theorem Q3x(op:Int):F5o op=some (Qj op):=by
 rw[F5oE,Qj]
 by_cases h:1≤op∧op≤8
 ·have:op=1∨op=2∨op=3∨op=4∨op=5∨op=6∨op=7∨op=8:=by omega
  rcases this with rfl|rfl|rfl|rfl|rfl|rfl|rfl|rfl<;>rfl
 ·rw[beqF (show¬op=1 by omega),beqF (show¬op=2 by omega),beqF (show¬op=3 by omega),beqF (show¬op=4 by omega),beqF (show¬op=5 by omega),beqF (show¬op=6 by omega),beqF (show¬op=7 by omega),beqF (show¬op=8 by omega),if_neg (by omega),if_neg (by omega),if_neg (by omega)];rfl
theorem Q8y(op:Int): -1≤Qj op∧Qj op≤2:=by
 unfold Qj;split
 ·omega
 ·split
  ·omega
  ·split<;>omega
def Q23(x:DSaid):Bool:=if x.1=1 then decide (0≤x.2∧x.2≤2)else if x.1=2 then decide (0≤x.2∧x.2≤1)else decide (0<Qj x.1)&&decide (x.2=0)
theorem Qlr(x:DSaid):F6x x=some (Q23 x):=by
 rw[F6xE,Q23]
 by_cases h1:x.1=1
 ·rw[bT (by rw[beq_iff_eq];exact h1),if_pos h1]
  by_cases c:x.2≥0
  ·rw[gT c];congr 1;exact decide_eq_decide.mpr ⟨fun h=>⟨c,by omega⟩,fun h=>by omega⟩
  ·rw[gF c,decide_eq_false (by omega)]
 ·rw[bF (beqF h1),if_neg h1]
  by_cases h2:x.1=2
  ·rw[bT (by rw[beq_iff_eq];exact h2),if_pos h2]
   by_cases c:x.2=0
   ·rw[bT (by rw[beq_iff_eq];exact c),decide_eq_true (by omega)]
   ·rw[bF (beqF c),Qay];congr 1;exact decide_eq_decide.mpr ⟨fun h=>by omega,fun h=>by omega⟩
  ·rw[bF (beqF h2),if_neg h2,Q3x,J0]
   by_cases c:Qj x.1>0
   ·rw[gT c,decide_eq_true (show 0<Qj x.1 from c),Ky,Qay]
   ·rw[gF c,decide_eq_false (show¬0<Qj x.1 from c),K1u]
theorem l10N(x:DSaid):F4u x=some (if x.1=1 then decide (0≤x.2∧x.2≤2)else if x.1=2 then decide (0≤x.2∧x.2≤1)else decide (x.2=0)):=by
 rw[F4uE]
 by_cases h1:x.1=1
 ·rw[bT (by rw[beq_iff_eq];exact h1),if_pos h1,Q2g,J0]
 ·rw[bF (beqF h1),if_neg h1]
  by_cases h2:x.1=2
  ·rw[bT (by rw[beq_iff_eq];exact h2),if_pos h2,Q2g,J0]
  ·rw[bF (beqF h2),if_neg h2,Qay]
def Q51:List DSaid→Int→Option Int
 |[],v=>some v
 |x::l,v=>if Q23 x=true∧Qj x.1≤v then Q51 l (v+(1-Qj x.1))else none
def Q17(f:List DSaid):Bool:=decide (1≤(f.length:Int)∧(f.length:Int)≤16)&&(Q51 f 0==some 1)
theorem Ql5(f:Bool×List DSaid)(hl:f.2.length≤1000)(d:Nat):∀(i:Nat) (v:Int),i+d=f.2.length→0≤v∧v≤2*i→
  (∃x,F9a v f (f.2.length:Int) (i:Int)=some x∧F9o v f (f.2.length:Int) (i:Int)=some x∧x=match Q51 (f.2.drop i) v with
   |some z=> .inr z
   |none=> .inl false):=by
 induction d with
 |zero=>
  intro i v hi hv;rw[F9aE,F9oE,gFo,gFo,K8 (by omega)];exact⟨_,rfl,rfl,rfl⟩
 |succ d ih=>
  intro i v hi hv
  have hlt:i<f.2.length:=by omega
  have hn:=Q8y f.2[i].1
  have ei:F9a v f (f.2.length:Int) (i:Int)=(bif !Q23 f.2[i]then some (.inl false)else bif decide (v<Qj f.2[i].1)then some (.inl false)else F9a (v+(1-Qj f.2[i].1)) f (f.2.length:Int) ((i+1:Nat):Int)):=by
   rw[F9aE,gTo,gTo,gTo,J2 f.2 _ i hlt,Q3x,J0,Qlr,J0,wr (n:=1-Qj f.2[i].1) (by omega),wr (n:=v+(1-Qj f.2[i].1)) (by omega),up1o i,J1]
  have es:F9o v f (f.2.length:Int) (i:Int)=(bif !Q23 f.2[i]then some (.inl false)else bif decide (v<Qj f.2[i].1)then some (.inl false)else F9o (v+(1-Qj f.2[i].1)) f (f.2.length:Int) ((i+1:Nat):Int)):=by
   rw[F9oE,gTo,gTo,gTo,J2 f.2 _ i hlt,Q3y,J0,l10N,J0,wr (n:=1-Qj f.2[i].1) (by omega),wr (n:=v+(1-Qj f.2[i].1)) (by omega),up1o i,J1];unfold Q23
   by_cases h1:f.2[i].1 =1
   ·rw[if_pos h1,if_pos h1,gF (by rw[h1];decide)]
   ·rw[if_neg h1,if_neg h1]
    by_cases h2:f.2[i].1 =2
    ·rw[if_pos h2,if_pos h2,gF (by rw[h2];decide)]
    ·rw[if_neg h2,if_neg h2]
     by_cases c:Qj f.2[i].1 <0
     ·rw[gT c,decide_eq_false (show¬0<Qj f.2[i].1 by omega)];rfl
     ·have:0<Qj f.2[i].1 :=by
       have h3:Qj f.2[i].1 ≠0:=by
        unfold Qj at c⊢;rw[if_neg (by omega)]at c⊢;split
        ·decide
        ·split<;>decide
       omega
      rw[gF c,decide_eq_true this,Ky]
  rw[ei,es,K2 hlt,Q51]
  cases h1:Q23 f.2[i]with
  |false=>exact⟨_,rfl,rfl,by simp⟩
  |true=>
   rw[K5,cond_false,cond_false]
   by_cases c:v<Qj f.2[i].1
   ·rw[gT c,gT c,if_neg (by omega)];exact⟨_,rfl,rfl,rfl⟩
   ·rw[gF c,gF c,if_pos ⟨rfl,by omega⟩];exact ih (i+1) _ (by omega) (by omega)
theorem Q8m(f:Bool×List DSaid):F3r f=some (Q17 f.2)∧F4f f=some (Q17 f.2):=by
 rw[F3rE,F4fE,Q2g,J0,Q17]
 by_cases c:1≤(f.2.length:Int)∧(f.2.length:Int)≤16
 ·obtain⟨x,e1,e2,e3⟩:=Ql5 f (by omega) f.2.length 0 0 (by omega) (by omega);have e1':F9a 0 f (f.2.length:Int) 0=_:=e1;have e2':F9o 0 f (f.2.length:Int) 0=_:=e2;rw[gFo,gFo,e1',J0,decide_eq_true c,K5,cond_false,e2',J0,e3,Kg,Ky]
  cases Q51 f.2 0 with
  |none=>exact⟨rfl,rfl⟩
  |some z=>
   have e:((some z:Option Int)==some 1)=(z==1):=rfl;rw[e];exact⟨rfl,rfl⟩
 ·rw[decide_eq_false c];refine⟨?_,rfl⟩
  by_cases c1:(f.2.length:Int)<1
  ·rw[gT c1];rfl
  ·rw[gF c1,gTo];rfl
def trk(op:Int)(i:Int):List Int:=if op=7∨op=8 then[i,i-1]else if op=4 then[i-1]else[]
def Qao(f:List DSaid):List Int:=((f.length:Int)-1)::(List.range f.length).flatMap fun i=>trk (f.getD i (0,0)).1 (i:Int)
def Q5(f:List DSaid):List Int:=Qr (Qao f)
theorem Qek(op i:Int):(trk op i).length ≤2:=by
 unfold trk;split
 ·simp
 ·split<;>simp
theorem Q8q(f:Bool×List DSaid)(hl:f.2.length≤1000)(d:Nat):∀(i:Nat) (b:Bool) (o:List Int),i+d=f.2.length→o.length≤1+2*i→
  ∃b',F59 (b,o) f (f.2.length:Int) (i:Int)=some (b',((List.range' i d).flatMap fun j=>trk (f.2.getD j (0,0)).1 (j:Int)).foldl (fun o n=>insL n o) o):=by
 induction d with
 |zero=>
  intro i b o hi ho;rw[F59E,gFo];exact⟨b,rfl⟩
 |succ d ih=>
  intro i b o hi ho
  have hlt:i<f.2.length:=by omega
  have eg:f.2.getD i (0,0)=f.2[i]:=by simp[K1,hlt]
  rw[F59E,gTo,gTo,gTo,Ql,K1a,K18,List.foldl_append,wr (n:=(i:Int)-1) (by omega),up1o i]
  have putTwo:∃b',((F10 (b,o) (i:Int)).bind fun r=>(F10 r ((i:Int)-1)).bind fun r1=>(F59 r1 f (f.2.length:Int) ((i+1:Nat):Int)).bind fun r=>some r)=some (b',((List.range' (i+1) d).flatMap fun j=>trk (f.2.getD j (0,0)).1 (j:Int)).foldl (fun o n=>insL n o) (insL ((i:Int)-1) (insL (i:Int) o))):=by
   obtain⟨f1,e1⟩:=Qbo b o (i:Int) (by omega);have l1:=Q1b (i:Int) o;obtain⟨f2,e2⟩:=Qbo f1 (insL (i:Int) o) ((i:Int)-1) (by omega);have l2:=Q1b ((i:Int)-1) (insL (i:Int) o);obtain⟨b',g⟩:=ih (i+1) f2 (insL ((i:Int)-1) (insL (i:Int) o)) (by omega) (by omega);rw[e1,J0,e2,J0,J1,g];exact⟨b',rfl⟩
  by_cases c7:(f.2.getD i (0,0)).1 =7
  ·rw[bT (by rw[beq_iff_eq];exact c7),bT (by rw[beq_iff_eq];exact c7)]
   have:trk (f.2.getD i (0,0)).1 (i:Int)=[(i:Int),(i:Int)-1]:=by unfold trk;rw[if_pos (.inl c7)]
   rw[this];exact putTwo
  ·rw[bF (beqF c7)]
   by_cases c8:(f.2.getD i (0,0)).1 =8
   ·rw[bT (by rw[beq_iff_eq];exact c8)]
    have:trk (f.2.getD i (0,0)).1 (i:Int)=[(i:Int),(i:Int)-1]:=by unfold trk;rw[if_pos (.inr c8)]
    rw[this];exact putTwo
   ·rw[bF (beqF c8)]
    by_cases c4:(f.2.getD i (0,0)).1 =4
    ·rw[bT (by rw[beq_iff_eq];exact c4)]
     have:trk (f.2.getD i (0,0)).1 (i:Int)=[(i:Int)-1]:=by unfold trk;rw[if_neg (by omega),if_pos c4]
     rw[this];obtain⟨f1,e1⟩:=Qbo b o ((i:Int)-1) (by omega);have l1:=Q1b ((i:Int)-1) o;obtain⟨b',g⟩:=ih (i+1) f1 (insL ((i:Int)-1) o) (by omega) (by omega);rw[e1,J0,J1,g];exact⟨b',rfl⟩
    ·rw[bF (beqF c4)]
     have:trk (f.2.getD i (0,0)).1 (i:Int)=[]:=by unfold trk;rw[if_neg (by omega),if_neg c4]
     rw[this,J1];exact ih (i+1) b o (by omega) (by omega)
theorem Q7u(f:Bool×List DSaid)(hl:f.2.length≤1000):∃b,F1n f=some (b,Q5 f.2):=by
 obtain⟨b,g⟩:=Q8q f hl f.2.length 0 false [(f.2.length:Int)-1] (by omega) (by simp);have g':F59 (false,[(f.2.length:Int)-1]) f (f.2.length:Int) 0=_:=g;rw[F1nE,wr (by omega),g',J0,Q5,Qao,Qr,K17,K1g];exact⟨b,rfl⟩
def Qhl(f:List DSaid)(i:Nat)(R:List DLI):Prop:=R.length=i∧∀(j:Nat) (hj:j<i),((R.getD j (true,[])).2.length :Int)=Qj (f.getD j (0,0)).1 ∧(Qj (f.getD j (0,0)).1 =1→(R.getD j (true,[])).2.getD 0 0=(j:Int)-1)∧(Qj (f.getD j (0,0)).1 =2→(R.getD j (true,[])).2.getD 1 0=(j:Int)-1)
theorem Qbz(f:Bool×List DSaid)(hl:f.2.length≤1000)(d:Nat):∀(i:Nat) (st:List Int) (R:List DLI),i+d=f.2.length→Qhl f.2 i R→st.length≤i→(0<i→st.getLast? =some ((i:Int)-1))→(Q51 (f.2.drop i) (st.length:Int)).isSome =true→
  ∃R',Fa9 (false,R) (false,st) f (f.2.length:Int) (i:Int)=some (false,R')∧Qhl f.2 f.2.length R':=by
 have hlim:=J4
 induction d with
 |zero=>
  intro i st R hi hR hst hlast hp
  obtain rfl:i=f.2.length:=by omega
  exact⟨R,by rw[Fa9E,gFo],hR⟩
 |succ d ih=>
  intro i st R hi hR hst hlast hp
  have hlt:i<f.2.length:=by omega
  have hn:=Q8y f.2[i].1
  have eg:f.2.getD i (0,0)=f.2[i]:=by simp[K1,hlt]
  rw[K2 hlt,Q51]at hp
  by_cases c:Q23 f.2[i]=true∧Qj f.2[i].1 ≤(st.length:Int)
  ·rw[if_pos c]at hp
   have hnn:0≤Qj f.2[i].1 :=by
    have h1:=c.1;unfold Q23 at h1
    by_cases a1:f.2[i].1 =1
    ·rw[a1];decide
    ·by_cases a2:f.2[i].1 =2
     ·rw[a2];decide
     ·rw[if_neg a1,if_neg a2,K7,decide_eq_true_eq]at h1;omega
   obtain⟨nd,hnd⟩:=Kc hnn
   have hle:nd≤st.length:=by have:=c.2;omega
   have ew:i64.wrap ((st.length:Int)-Qj f.2[i].1)=((st.length-nd:Nat):Int):=by rw[wr (by omega)];omega
   have hdrop:(st.drop (st.length-nd)).length =nd:=by rw[K29];omega
   have hR1:=hR.1
   obtain⟨R',g1,g2⟩:=ih (i+1) (st.take (st.length-nd)++[(i:Int)]) (R++[(false,st.drop (st.length-nd))]) (by omega) ⟨by simp[hR1],fun j hj=>by
     by_cases e:j=i
     ·subst e
      have e1:(R++[(false,st.drop (st.length-nd))]).getD j (true,[])=(false,st.drop (st.length-nd)):=by
       rw[K1,←hR1,List.getElem?_concat_length];rfl
      rw[e1,eg,hnd];refine⟨by rw[hdrop],fun h1=> ?_,fun h2=> ?_⟩
      ·have hnd1:nd=1:=by omega
       have hl0:=hlast (by omega);rw[List.getLast?_eq_getElem?]at hl0;show(st.drop (st.length-nd)).getD 0 0=_;rw[K1,List.getElem?_drop,hnd1];simp only[K2d];rw[hl0];rfl
      ·have hnd1:nd=2:=by omega
       have hl0:=hlast (by omega);rw[List.getLast?_eq_getElem?]at hl0;show(st.drop (st.length-nd)).getD 1 0=_;rw[K1,List.getElem?_drop,hnd1,show st.length-2+1=st.length-1 by omega];rw[hl0];rfl
     ·have hj2:j<i:=by omega
      have e1:(R++[(false,st.drop (st.length-nd))]).getD j (true,[])=R.getD j (true,[]):=by
       rw[K1,Ko (by omega),K1]
      rw[e1]
      exact hR.2 j hj2⟩ (by simp;omega) (fun _=>by rw[List.getLast?_concat];simp) (by
     have e2:(((st.take (st.length-nd)++[(i:Int)]).length :Nat):Int)=(st.length:Int)+(1-Qj f.2[i].1):=by simp;omega
     rw[e2]
     exact hp)
   refine⟨R',?_,g2⟩
   have etk:(st.take st.length).drop (st.length-nd)=st.drop (st.length-nd):=by rw[List.take_length]
   rw[Fa9E,gTo,gTo,gTo,J2 f.2 _ i hlt,Q3x,J0];simp only[ew,K3,etk];rw[gTo,gTo,Q1x _ (by omega),J0,gT (by simp;omega),gTo,gTo,gT (by simp;omega),up1o i,J1,K26,Kg,g1]
  ·rw[if_neg c]at hp;cases hp
theorem Qi{f:List DSaid}(h:Q17 f=true):1≤f.length∧f.length≤16∧Q51 f 0=some 1:=by
 simp only[Q17,K7,decide_eq_true_eq,beq_iff_eq]at h;exact⟨by omega,by omega,h.2⟩
theorem Q7j(f:Bool×List DSaid)(h:Q17 f.2=true):∃R,F2k f=some (false,R)∧Qhl f.2 f.2.length R:=by
 obtain⟨h1,h2,h3⟩:=Qi h
 obtain⟨R,g1,g2⟩:=Qbz f (by omega) f.2.length 0 [] [] (by omega) ⟨rfl,fun j hj=>by omega⟩ (by simp) (fun h=>by omega) (by
  show(Q51 (f.2.drop 0) 0).isSome =true;rw[Kg,h3]
  rfl)
 have g1':Fa9 (false,[]) (false,[]) f (f.2.length:Int) 0=_:=g1;exact⟨R,by rw[F2kE,g1',J0],g2⟩
theorem Qej(f:Bool×List DSaid)(hl:f.2.length≤1000)(R:List DLI)(hR:Qhl f.2 f.2.length R)(d:Nat):∀(i:Nat) (o:List Int),i+d=f.2.length→o.length≤1+2*i→
  F57 (false,o) (false,R) f (f.2.length:Int) (i:Int)=some (false,o++(List.range' i d).flatMap fun j=>trk (f.2.getD j (0,0)).1 (j:Int)):=by
 have hlim:=J4
 induction d with
 |zero=>
  intro i o hi ho;rw[F57E,gFo];simp
 |succ d ih=>
  intro i o hi ho
  have hlt:i<f.2.length:=by omega
  obtain⟨r1,r2,r3⟩:=hR.2 i hlt;have hR1:=hR.1;rw[F57E,gTo,gTo,gTo,Ql,K1a,K18,up1o i]
  have putTwo:∀(hop:(f.2.getD i (0,0)).1 =7∨(f.2.getD i (0,0)).1 =8),(bif decide (0≤(i:Int))then bif decide ((i:Int)<(R.length:Int))then bif decide (1<(((R.getD (toNat (i:Int)) (true,[])).2).length :Int))then
    bif decide (o.length+[(i:Int),(((R.getD (toNat (i:Int)) (true,[])).2).getD 1 0)].length ≤lim)then
    (F57 ((false&&false),(o++[(i:Int),(((R.getD (toNat (i:Int)) (true,[])).2).getD 1 0)])) (false,R) f (f.2.length:Int) ((i+1:Nat):Int)).bind fun r=>some r else none else none else none else none)=some (false,o++(trk (f.2.getD i (0,0)).1 (i:Int)++(List.range' (i+1) d).flatMap fun j=>trk (f.2.getD j (0,0)).1 (j:Int))):=by
   intro hop
   have hn2:Qj (f.2.getD i (0,0)).1 =2:=by rcases hop with h|h<;>rw[h]<;>rfl
   have e1:=r3 hn2;rw[hn2]at r1
   have et:trk (f.2.getD i (0,0)).1 (i:Int)=[(i:Int),(i:Int)-1]:=by unfold trk;rw[if_pos hop]
   rw[K3,gTo,gTo,gTo,e1,gT (by simp;omega),J1,K26,ih (i+1) _ (by omega) (by simp;omega),et];simp
  by_cases c7:(f.2.getD i (0,0)).1 =7
  ·rw[bT (by rw[beq_iff_eq];exact c7),bT (by rw[beq_iff_eq];exact c7)];exact putTwo (.inl c7)
  ·rw[bF (beqF c7)]
   by_cases c8:(f.2.getD i (0,0)).1 =8
   ·rw[bT (by rw[beq_iff_eq];exact c8)];exact putTwo (.inr c8)
   ·rw[bF (beqF c8)]
    by_cases c4:(f.2.getD i (0,0)).1 =4
    ·rw[bT (by rw[beq_iff_eq];exact c4)]
     have hn1:Qj (f.2.getD i (0,0)).1 =1:=by rw[c4];rfl
     have e1:=r2 hn1;rw[hn1]at r1
     have et:trk (f.2.getD i (0,0)).1 (i:Int)=[(i:Int)-1]:=by unfold trk;rw[if_neg (by omega),if_pos c4]
     simp only[K3];rw[gTo,gTo,gTo,e1,gT (by simp;omega),J1,K26,ih (i+1) _ (by omega) (by simp;omega),et];simp
    ·rw[bF (beqF c4),J1,ih (i+1) o (by omega) (by omega)]
     have et:trk (f.2.getD i (0,0)).1 (i:Int)=[]:=by unfold trk;rw[if_neg (by omega),if_neg c4]
     rw[et];rfl
theorem Q75(f:List DSaid)(d i:Nat):((List.range' i d).flatMap fun j=>trk (f.getD j (0,0)).1 (j:Int)).length ≤2*d:=by
 induction d generalizing i with
 |zero=>simp
 |succ d ih=>
  have h1:=Qek (f.getD i (0,0)).1 (i:Int);have h2:=ih (i+1);rw[K1a,K18,Kf];omega
theorem Q3(f:Bool×List DSaid)(h:Q17 f.2=true):Fy f=some (false,Q5 f.2):=by
 obtain⟨h1,h2,h3⟩:=Qi h;obtain⟨R,e1,hR⟩:=Q7j f h;have e2:=Qej f (by omega) R hR f.2.length 0 [(f.2.length:Int)-1] (by omega) (by simp);have e2':F57 (false,[(f.2.length:Int)-1]) (false,R) f (f.2.length:Int) 0=_:=e2;have hl:=Q75 f.2 f.2.length 0;rw[FyE,e1,J0,wr (by omega),e2',J0,Q83 _ (by simp only[Kf,Kq,K1m];omega),Q5,Qao,K1g];rfl
def Q10(f:List DSaid):Bool:=Q17 f&&decide (((Q5 f).length :Int)≤5)
theorem Q6i(f:Bool×List DSaid):F89 f=some (Q10 f.2)∧F8o f=some (Q10 f.2):=by
 obtain⟨g1,g2⟩:=Q8m f;rw[F89E,F8oE,g1,g2,J0,J0,Q10]
 cases h:Q17 f.2 with
 |false=>exact⟨rfl,rfl⟩
 |true=>
  obtain⟨h1,h2,h3⟩:=Qi h;obtain⟨b,e⟩:=Q7u f (by omega);rw[cond_true,cond_true,Q3 f h,e,J0,J0,Ky];exact⟨rfl,rfl⟩
def isQ(q:DQuestion):Bool:=Q18 q.1&&(decide ((q.2.1.2.length:Int)=3)&&(Q10 q.2.2.2&&q.2.1.2.all fun t=>Qb q.1.1 q.1.2.1 t.2==2))
theorem Qed(q:DQuestion)(hs:Qg q.1)(hw:WfP q.1)(ht:∀t∈q.2.1.2,WfN t.2):F4m q=some (isQ q):=by
 rw[F4mE,Qjd q.1 hs hw,J0,isQ]
 cases Q18 q.1 with
 |false=>rfl
 |true=>
  rw[K5,cond_false,Ky]
  by_cases c:(q.2.1.2.length:Int)=3
  ·have e:=Qca q.2.1.2 (fun t=>Qb q.1.1 q.1.2.1 t.2==2) (fun i=>Fbr q q.2.1 (q.2.1.2.length:Int) i) (fun i h=>by
    rw[FbrE,gTo,gTo,gTo,J2 q.2.1.2 _ i h,Qct q.1 _ (ht _ (K4 h)),J0,up1o i,J1]) (by rw[FbrE,gFo])
   have e':Fbr q q.2.1 (q.2.1.2.length:Int) 0=_:=e;rw[bF (by rw[c];rfl),(Q6i q.2.2).2,J0,decide_eq_true c,Ky,e',J0]
   cases Q10 q.2.2.2 with
   |false=>rfl
   |true=>cases(q.2.1.2.all fun t=>Qb q.1.1 q.1.2.1 t.2==2)<;>rfl
  ·rw[bT (by rw[bne_iff_ne];exact c),decide_eq_false c];rfl
theorem Qdu(q:DQuestion)(hs:Qg q.1):F53 q=some (isQ q):=by
 rw[F53E,Q5f q.1 hs,J0,isQ]
 cases Q18 q.1 with
 |false=>rfl
 |true=>
  rw[K5,cond_false,Ky]
  by_cases c:(q.2.1.2.length:Int)=3
  ·have h:=Ja q.2.1.2 (fun t=> !(Qb q.1.1 q.1.2.1 t.2==2)) (fun i=>Fbl q.2.1 (q,()) (q.2.1.2.length:Int) i) (fun i h=>by
    rw[FblE,gTo,gTo,gTo,J2 q.2.1.2 _ i h,F8bE,Q38,J0,J0,up1o i,J1]) (by rw[FblE,gFo])
   have h2:F7k q.2.1 (q,())=some (q.2.1.2.any fun t=> !(Qb q.1.1 q.1.2.1 t.2==2)):=by
    rw[F7kE,F3nE];exact Jc h
   rw[bF (by rw[c];rfl),(Q6i q.2.2).1,J0,decide_eq_true c,Ky,h2,J0]
   cases Q10 q.2.2.2 with
   |false=>rfl
   |true=>
    rw[K5,cond_false,Ky,List.all_eq_not_any_not]
  ·rw[bT (by rw[bne_iff_ne];exact c),decide_eq_false c];rfl
structure Asks (q:DQuestion):Prop where
 ok:Ok q.1
 three:q.2.1.2.length=3
 tr:Q10 q.2.2.2=true
 wf:∀t∈q.2.1.2,WfN t.2
 kind:∀t∈q.2.1.2,(Qb q.1.1 q.1.2.1 t.2==2)=true
theorem Qk6{q:DQuestion}(h:isQ q=true)(hs:Qg q.1)(hw:WfP q.1)(ht:∀t∈q.2.1.2,WfN t.2):Asks q:=by
 simp only[isQ,K7,decide_eq_true_eq,K11]at h;exact⟨Qk8 h.1 hs hw,by omega,h.2.2.1,ht,fun t h1=>h.2.2.2 t h1⟩
noncomputable def letL(p:DProgram)(no:Int):List DLN→Nat→Int→Int
 |[],_,a=>a
 |t::l,k,a=>letL p no l (k+1) (if Qs p t.2 no=true then bOr .i64 a (bShl .i64 1 (k:Int))else a)
noncomputable def letter(q:DQuestion)(no:Int):Int:=letL q.1 no q.2.1.2 0 0
theorem Qga{q:DQuestion}(h:Asks q)(no:Int):0≤letter q no∧letter q no≤7:=by
 have h3:=h.three;unfold letter
 match q.2.1.2,h3 with
 |[a,b,c],_=>
  simp only[letL];cases Qs q.1 a.2 no<;>cases Qs q.1 b.2 no<;>cases Qs q.1 c.2 no<;>exact⟨by decide,by decide⟩
theorem Qa4{q:DQuestion}(h:Asks q)(no:Int)(hn:0≤no∧no<1000)(d:Nat):∀(i:Nat) (a:Int),i+d=q.2.1.2.length→
  F6g no q a q.2.1 (q.2.1.2.length:Int) (i:Int)=some (letL q.1 no (q.2.1.2.drop i) i a)∧F8t q (false,Qe q.1 no) a q.2.1 (q.2.1.2.length:Int) (i:Int)=some (letL q.1 no (q.2.1.2.drop i) i a):=by
 have h3:=h.three
 induction d with
 |zero=>
  intro i a hi;rw[F6gE,F8tE,gFo,gFo,K8 (by omega)];exact⟨rfl,rfl⟩
 |succ d ih=>
  intro i a hi
  have hlt:i<q.2.1.2.length:=by omega
  have ht:=h.wf _ (K4 hlt);have hk:=Q8p (h.kind _ (K4 hlt));obtain⟨e1,e2⟩:=Q4v h.ok.sml q.2.1.2[i] ht hk false no;rw[F6gE,F8tE,J2 q.2.1.2 _ i hlt,l7Of h.ok.sml no hn];simp only[gT (show(i:Int)<(q.2.1.2.length:Int) by omega),gT (show(0:Int)≤(i:Int) by omega),e1,e2,J0,up1o i,wru (n:=(i:Int)) (by omega),gF (show¬(i:Int)<0 by omega),J1];rw[K2 hlt,letL]
  cases Qs q.1 q.2.1.2[i].2 no with
  |true=>
   rw[cond_true,cond_true,if_pos rfl];exact ih (i+1) _ (by omega)
  |false=>
   rw[cond_false,cond_false,if_neg (by decide)];exact ih (i+1) _ (by omega)
theorem Qfw{q:DQuestion}(h:Asks q)(no:Int)(hn:0≤no∧no<1000):F38 q no=some (letter q no):=by
 have e:=(Qa4 h no hn q.2.1.2.length 0 0 (by omega)).1;have e':F6g no q 0 q.2.1 (q.2.1.2.length:Int) 0=_:=e;rw[F38E,e',J0];rfl
theorem Qiu{q:DQuestion}(h:Asks q)(no:Int)(hn:0≤no∧no<1000):F36 q no=some (letter q no):=by
 have e:=(Qa4 h no hn q.2.1.2.length 0 0 (by omega)).2;have e':F8t q (false,Qe q.1 no) 0 q.2.1 (q.2.1.2.length:Int) 0=_:=e;rw[F36E,Q70 h.ok.sml no hn,J0,e',J0];rfl
def FitQ(q:DQuestion)(v:List Int):Prop:=∀j k:Nat,j<v.length→k<v.length→v.getD j 0=v.getD k 0→letter q (j:Int)=letter q (k:Int)
theorem Ql9(a:Bool×List DSaid)(left:Int)(h0:0≤left∧left≤1048576)(hl:a.2.length≤big):F7c a left=some (if(a.2.length:Int)≤left then left-a.2.length else -1):=by
 rw[J61]at hl;rw[F7cE,wr (by omega)]
 by_cases h:(a.2.length:Int)≤left
 ·rw[gFo,if_pos h]
 ·rw[gTo,if_neg h]
theorem Qla(a:Bool×List DSaid)(hl:a.2.length≤1048576):F4e a=some (false,a.2):=by
 have hlim:lim=1099511627776:=rfl;rw[F4eE,gTo,gTo,gTo,gTo,J1]
 have:=J2y a.2 (fun x=>x) (fun o i=>Fb0 a o i) false (fun i h x hx=>by
  rw[Fb0E,gTo,gTo,gTo,J2 a.2 _ i h,F1mE,J0,gTo,gTs,up1o i,J1,K3]) (fun x hx=>by
  rw[Fb0E,gFo]) (List.replicate (toNat (a.2.length:Int)) (0,0)) (by simp)
 rw[this];simp
theorem Q9l(a:Bool×List DSaid)(hl:a.2.length≤1048576)(b:Bool):F3p a (b,a.2)=some true:=by
 rw[F3pE,bF (by simp)]
 have:=J3m a.2 (fun _=>true) (.inr ():Bool ⊕ Unit) (.inl false) (fun i=>Fa7 a (b,a.2) i) (fun i h=>by
  rw[Fa7E,gTo,gTo,gTo,gTo,gTs,J2 a.2 _ i h,F1rE,bF (by simp),bF (by simp),J0,bF (by simp),up1o i,J1,cond_true]) (by
  rw[Fa7E,gFo])
 rw[this,show(a.2.all fun _=>true)=true by simp];rfl
theorem Q9k(f g:Bool)(l:List DSaid)(hl:l.length≤1048576):F3p (f,l) (g,l)=some true:=Q9l (f,l) hl g
theorem Q91{a:DRN}(w:WfD (.sl (.sl tyNode)) a):a.2.length≤big∧(∀x∈a.2,x.2.length≤big)∧∀t∈Q28 a.2,WfN t.2:=by
 refine⟨w.2.1,fun x hx=>(w.2.2 x hx).2.1,fun t ht=> ?_⟩;obtain⟨x,hx,rfl⟩:=Kx.1 ht;exact(show WfN x.2 from Q4m (w.2.2 x hx))
structure SmQ (q:DQuestion):Prop where
 prog:Qg q.1
 rows:Q4l q.2.1.2
 said:q.2.2.2.length≤1048576
def cpQ(q:DQuestion):DQuestion:=(Q9 q.1,(false,Q28 q.2.1.2),(false,q.2.2.2))
theorem Qer{q:DQuestion}(h:SmQ q):SmQ (cpQ q):=⟨Qm8 h.prog,Q9a h.rows,h.said⟩
theorem Qeg(q:DQuestion)(w:WfD tyQuestion q)(left:Int)(h0:0≤left∧left≤1048576):∃r,F6w q left=some r∧(r<0∨(0≤r∧r≤left∧SmQ q)):=by
 obtain⟨w1,w2,w3⟩:=w;obtain⟨v1,v2,_⟩:=Q91 w2;obtain⟨r,e,hr⟩:=Qh3 q.1 w1 left h0;rw[F6wE,e,J0]
 rcases hr with hr|⟨h1,h2,h3⟩
 ·rw[gT hr];exact⟨_,rfl,.inl (by omega)⟩
 ·rw[gFo];obtain⟨r1,e1,hr1⟩:=Qd6 q.2.1 r (by omega) v1 v2;rw[e1,J0]
  rcases hr1 with hr1|⟨h4,h5,h6⟩
  ·rw[gT hr1];exact⟨_,rfl,.inl (by omega)⟩
  ·rw[gFo,Ql9 q.2.2 r1 (by omega) w3.2.1,J0]
   by_cases c:(q.2.2.2.length:Int)≤r1
   ·rw[if_pos c,gFo];exact⟨_,rfl,.inr ⟨by omega,by omega,h3,h6,by omega⟩⟩
   ·rw[if_neg c,gTo];exact⟨_,rfl,.inl (by omega)⟩
theorem Qei(q:DQuestion)(h:SmQ q):F5d q=some ((Q9 q.1).1,(Q9 q.1).2.1,(false,(Q9 q.1).2.2.1.2),(false,(Q9 q.1).2.2.2.2),(false,Q28 q.2.1.2),(false,q.2.2.2)):=by
 rw[F5dE,Qh7 q.1 h.prog,J0,Qd7 q.2.1 h.rows,J0,Qla q.2.2 h.said,J0];rfl
theorem Q6g(q:DQuestion)(h:SmQ q):F8x q q=some true:=by
 rw[F8xE,Q7f q.1 h.prog,J0,K5,cond_false];have e1:F3a q.2.1 q.2.1=some true:=Q4s _ _ q.2.1.2 q.2.1.2 h.rows rfl;have e2:F3p q.2.2 q.2.2=some true:=Q9k _ _ q.2.2.2 h.said;rw[e1,J0,K5,cond_false,e2,J0];rfl
structure LawQ (q:DQuestion):Prop where
 sm:SmQ q
 wfp:WfP q.1
 wf:∀t∈q.2.1.2,WfN t.2
theorem Qk7{q:DQuestion}(w:WfD tyQuestion q)(h:SmQ q):LawQ (cpQ q):=⟨Qer h,Qlh (Qho w.1),(Q91 w.2.1).2.2⟩
theorem Qea(l:List Int):∀m:Int,Q2l m l=true→∀c:Int,m≤c→c<l.foldl (fun m x=>if x≥m then x+1 else m) m→c∈l:=by
 induction l with
 |nil=>intro m _ c h1 h2;exact absurd h2 (by simp only[List.foldl_nil];omega)
 |cons x l ih=>
  intro m h c h1 h2;simp only[Q2l,K7,decide_eq_true_eq]at h;obtain⟨⟨h3,h4⟩,h5⟩:=h;rw[K17]at h2
  by_cases e:x=m
  ·rw[if_pos e]at h5;rw[if_pos (by omega),e]at h2
   by_cases ec:c=m
   ·exact Kd.2 (.inl (by omega))
   ·exact K9 _ (ih _ h5 c (by omega) h2)
  ·rw[if_neg e]at h5;rw[if_neg (by omega)]at h2;exact K9 _ (ih _ h5 c h1 h2)
theorem Q4x{p:DProgram}{v:List Int}(h:Q6 p v=true)(c:Int)(hc:0≤c∧c<Q2w v):c∈v:=by
 simp only[Q6,K7]at h;exact Qea v 0 h.2.2 c hc.1 hc.2
theorem Q8o(l:DLI)(n:Int)(hl:l.2.length≤1048576):F25 l n=some (bif l.2.any (fun x=>n==x)then(l.2.findIdx (fun x=>n==x):Int)else -1):=by
 have h:=Ja l.2 (fun x=>n==x) (fun i=>F9t l n (l.2.length:Int) i) (fun i h=>by
  rw[F9tE,gTo,gTo,gTo,J2 l.2 _ i h,up1o i,J1]) (by rw[F9tE,gFo])
 rw[F25E,h,J0];cases l.2.any (fun x=>n==x)<;>rfl
theorem Q26{q:DQuestion}(h:Asks q){v:List Int}(hv:Sees q.1 v)(hf:FitQ q v)(c:Int)(hc:c∈v)(f g:Bool):
  ∃r,F79 q (f,v) c=some r∧F6l q (g,v) c=some r∧0≤r∧r≤7∧∀j:Nat,j<v.length→v.getD j 0=c→letter q (j:Int)=r:=by
 have hm:=hv.manyV;obtain⟨b,e1⟩:=Qlv (f,v) (by simp only;omega) c;have e1':F2i (f,v) c=some (b,inL v c):=e1;obtain⟨i,hi,ei⟩:=List.mem_iff_getElem.1 hc
 have hgi:v.getD i 0=c:=by rw[K1,Ka hi,ei];rfl
 have h0:0<(inL v c).length :=List.length_pos_of_mem (Qbu.2 ⟨(by omega:0≤(i:Int)∧(i:Int)<(v.length:Int)),by rw[K3];exact hgi⟩)
 have e0:(inL v c).getD 0 0=(inL v c)[0]:=by rw[K1,Ka h0];rfl
 obtain⟨h3,h4⟩:=Qbu.1 (K4 h0);have hidx:v.findIdx (fun x=>c==x)<v.length:=List.findIdx_lt_length_of_exists ⟨c,hc,by simp⟩
 have hat:v.getD (v.findIdx (fun x=>c==x)) 0=c:=by
  have:=List.findIdx_getElem (w:=hidx);rw[K1,Ka hidx];exact(by simpa using this:c=v[v.findIdx (fun x=>c==x)]).symm
 have hany:(v.any fun x=>c==x)=true:=Ku.2 ⟨c,hc,by simp⟩;have e2:=Q8o (g,v) c (by simp only;omega);simp only[hany,cond_true]at e2
 have hall:∀j:Nat,j<v.length→v.getD j 0=c→letter q (j:Int)=letter q ((inL v c)[0]):=fun j hj ej=>by
  have:=hf j ((inL v c)[0]).toNat hj (by omega) (by rw[ej,h4]);rw[this,K1t h3.1]
 have hin:=Qga h ((inL v c)[0]);refine⟨letter q ((inL v c)[0]),?_,?_,hin.1,hin.2,hall⟩
 ·rw[F79E,e1',J0,gTs];simp only[e0];rw[Qfw h _ (by omega),J0]
 ·rw[F6lE,e2,J0,Qiu h _ (by omega),J0,hall _ hidx hat]
inductive From (f:List DSaid):Nat→Nat→Prop
 |sub0 {k:Nat}:Qj (f.getD k (0,0)).1 =0→From f k k
 |sub1 {k s:Nat}:Qj (f.getD (k+1) (0,0)).1 =1→From f k s→From f (k+1) s
 |sub2 {k s t:Nat}:Qj (f.getD (k+1) (0,0)).1 =2→From f k (s+1)→From f s t→From f (k+1) t
theorem Q4b(f:Bool×List DSaid)(x:Int):Fao f x 0=some x:=by
 rw[FaoE,gFo]
theorem Qeq{f:List DSaid}{k s:Nat}(h:From f k s):s≤k:=by
 induction h with
 |sub0 _=>exact Kz _
 |sub1 _ _ ih=>omega
 |sub2 _ _ _ ih1 ih2=>omega
theorem Qkq(f:Bool×List DSaid)(hl:f.2.length≤1000){k s:Nat}(h:From f.2 k s):k<f.2.length→F1z f (k:Int)=some (s:Int):=by
 induction h with
 | @sub0 k hn=>
  intro hk;rw[F1zE,gTo,gTo,Ql,Q3y,hn,J0,Q4b,J0]
 | @sub1 k s hn h1 ih=>
  intro hk;rw[F1zE,gTo,gTo,Ql,Q3y,hn,J0,FaoE,gTo,dn1 (k+1) (by omega) (by omega),Nat.add_sub_cancel,ih (by omega),J0,wr (by omega),show(1:Int)-1=0 by omega,Q4b];rfl
 | @sub2 k s t hn h1 h2 ih1 ih2=>
  intro hk;have hs:=Qeq h1;rw[F1zE,gTo,gTo,Ql,Q3y,hn,J0,FaoE,gTo,dn1 (k+1) (by omega) (by omega),Nat.add_sub_cancel,ih1 (by omega),J0,wr (by omega),show(2:Int)-1=1 by omega,FaoE,gTo,dn1 (s+1) (by omega) (by omega),Nat.add_sub_cancel,ih2 (by omega),J0,wr (by omega),show(1:Int)-1=0 by omega,Q4b];rfl
inductive Stk (f:List DSaid):List Int→Nat→Prop
 |nil:Stk f [] 0
 |snoc {st:List Int} {s k:Nat}:Stk f st s→From f k s→Stk f (st++[(k:Int)]) (k+1)
theorem Qhm{f:List DSaid}{st:List Int}{i:Nat}(h:Stk f st i)(nd:Nat)(hn:Qj (f.getD i (0,0)).1 =(nd:Int))(h2:nd≤2)(hle:nd≤st.length):
  Stk f (st.take (st.length-nd)++[(i:Int)]) (i+1)∧(nd=1→(st.drop (st.length-nd)).getD 0 0=(i:Int)-1)∧(nd=2→(st.drop (st.length-nd)).getD 1 0=(i:Int)-1∧∃k:Nat,(st.drop (st.length-nd)).getD 0 0=(k:Int)∧From f (i-1) (k+1)):=by
 have h3:nd=0∨nd=1∨nd=2:=by omega
 rcases h3 with rfl|rfl|rfl
 ·refine⟨?_,fun h=>by omega,fun h=>by omega⟩;rw[Nat.sub_zero,List.take_length];exact .snoc h (.sub0 hn)
 ·cases h with
  |nil=>exact absurd hle (by simp)
  | @snoc st s k h1 h4=>
   have e:(st++[(k:Int)]).length -1=st.length:=by simp
   rw[e,List.take_left,List.drop_left];refine⟨.snoc h1 (.sub1 hn h4),fun _=> ?_,fun h=>by omega⟩;show(k:Int)=((k+1:Nat):Int)-1;omega
 ·cases h with
  |nil=>exact absurd hle (by simp)
  | @snoc st s k h1 h4=>
   cases h1 with
   |nil=>exact absurd hle (by simp)
   | @snoc st2 s2 k2 h5 h6=>
    have e:(st2++[(k2:Int)]++[(k:Int)]).length -2=st2.length:=by simp
    rw[e,Kj,List.take_left,List.drop_left];refine⟨.snoc h5 (.sub2 hn h4 h6),fun h=>by omega,fun _=>⟨?_,k2,rfl,h4⟩⟩;show(k:Int)=((k+1:Nat):Int)-1;omega
structure OpsAre (f:List DSaid) (i:Nat) (R:List DLI):Prop where
 len:R.length=i
 pos:∀j:Nat,j<i→Qj (f.getD j (0,0)).1 ≤(j:Int)
 many:∀j:Nat,j<i→((R.getD j (true,[])).2.length :Int)=Qj (f.getD j (0,0)).1
 op1:∀j:Nat,j<i→Qj (f.getD j (0,0)).1 =1→(R.getD j (true,[])).2.getD 0 0=(j:Int)-1
 op2:∀j:Nat,j<i→Qj (f.getD j (0,0)).1 =2→(R.getD j (true,[])).2.getD 1 0=(j:Int)-1∧∃k:Nat,(R.getD j (true,[])).2.getD 0 0=(k:Int)∧From f (j-1) (k+1)
theorem Qau{f:List DSaid}{i:Nat}{R:List DLI}(h:OpsAre f i R)(b:Bool)(l:List Int)(h0:Qj (f.getD i (0,0)).1 ≤(i:Int))(h1:(l.length:Int)=Qj (f.getD i (0,0)).1)(h2:Qj (f.getD i (0,0)).1 =1→l.getD 0 0=(i:Int)-1)
  (h3:Qj (f.getD i (0,0)).1 =2→l.getD 1 0=(i:Int)-1∧∃k:Nat,l.getD 0 0=(k:Int)∧From f (i-1) (k+1)):OpsAre f (i+1) (R++[(b,l)]):=by
 have hl:=h.len
 have e1:(R++[(b,l)]).getD i (true,[])=(b,l):=by
  rw[K1,←hl,List.getElem?_concat_length];rfl
 have e2:∀j:Nat,j<i→(R++[(b,l)]).getD j (true,[])=R.getD j (true,[]):=fun j hj=>by
  rw[K1,Ko (by omega),K1]
 refine⟨by simp[hl],fun j hj=> ?_,fun j hj=> ?_,fun j hj hn=> ?_,fun j hj hn=> ?_⟩<;>by_cases e:j=i
 ·subst e;exact h0
 ·exact h.pos j (by omega)
 ·subst e;rw[e1];exact h1
 ·rw[e2 j (by omega)];exact h.many j (by omega)
 ·subst e;rw[e1];exact h2 hn
 ·rw[e2 j (by omega)];exact h.op1 j (by omega) hn
 ·subst e;rw[e1];exact h3 hn
 ·rw[e2 j (by omega)];exact h.op2 j (by omega) hn
theorem Qbw{x:DSaid}(h:Q23 x=true):0≤Qj x.1:=by
 unfold Q23 at h
 by_cases a1:x.1=1
 ·rw[a1];decide
 ·by_cases a2:x.1=2
  ·rw[a2];decide
  ·rw[if_neg a1,if_neg a2,K7,decide_eq_true_eq]at h;omega
theorem Qgs(f:Bool×List DSaid)(hl:f.2.length≤1000)(d:Nat):∀(i:Nat) (st:List Int) (R:List DLI),i+d=f.2.length→OpsAre f.2 i R→Stk f.2 st i→st.length≤i→(Q51 (f.2.drop i) (st.length:Int)).isSome =true→
  ∃R',Fa9 (false,R) (false,st) f (f.2.length:Int) (i:Int)=some (false,R')∧OpsAre f.2 f.2.length R':=by
 have hlim:=J4
 induction d with
 |zero=>
  intro i st R hi hR hS hst hp
  obtain rfl:i=f.2.length:=by omega
  exact⟨R,by rw[Fa9E,gFo],hR⟩
 |succ d ih=>
  intro i st R hi hR hS hst hp
  have hlt:i<f.2.length:=by omega
  have hn:=Q8y f.2[i].1
  have eg:f.2.getD i (0,0)=f.2[i]:=by simp[K1,hlt]
  rw[K2 hlt,Q51]at hp
  by_cases c:Q23 f.2[i]=true∧Qj f.2[i].1 ≤(st.length:Int)
  ·rw[if_pos c]at hp;obtain⟨nd,hnd⟩:=Kc (Qbw c.1)
   have hle:nd≤st.length:=by have:=c.2;omega
   have ew:i64.wrap ((st.length:Int)-Qj f.2[i].1)=((st.length-nd:Nat):Int):=by rw[wr (by omega)];omega
   have hdrop:(st.drop (st.length-nd)).length =nd:=by rw[K29];omega
   have hR1:=hR.len
   have hl1:(st.take (st.length-nd)++[(i:Int)]).length ≤i+1:=by simp;omega
   have e2:(((st.take (st.length-nd)++[(i:Int)]).length :Nat):Int)=(st.length:Int)+(1-Qj f.2[i].1):=by simp;omega
   have q1:Qj f.2[i].1 =1→nd=1:=by omega
   have q2:Qj f.2[i].1 =2→nd=2:=by omega
   have hS':=Qhm hS nd (by rw[eg];exact hnd) (by omega) hle;have hA:=Qau hR false (st.drop (st.length-nd)) (by rw[eg];omega) (by rw[hdrop,eg,hnd]) (fun h=>hS'.2.1 (q1 (eg▸h))) (fun h=>hS'.2.2 (q2 (eg▸h)));have s1:=hS'.1;clear hS'
   obtain⟨R',g1,g2⟩:=ih (i+1) (st.take (st.length-nd)++[(i:Int)]) (R++[(false,st.drop (st.length-nd))]) (by omega) hA s1 hl1 (by
     rw[e2]
     exact hp)
   refine⟨R',?_,g2⟩
   have etk:(st.take st.length).drop (st.length-nd)=st.drop (st.length-nd):=by rw[List.take_length]
   rw[Fa9E,gTo,gTo,gTo,J2 f.2 _ i hlt,Q3x,J0];simp only[ew,K3,etk];rw[gTo,gTo,Q1x _ (by omega),J0,gT (by simp;omega),gTo,gTo,gT (by simp;omega),up1o i,J1,K26,Kg,g1]
  ·rw[if_neg c]at hp;cases hp
theorem Qgr(f:Bool×List DSaid)(h:Q17 f.2=true):∃R,F2k f=some (false,R)∧OpsAre f.2 f.2.length R:=by
 obtain⟨h1,h2,h3⟩:=Qi h
 obtain⟨R,g1,g2⟩:=Qgs f (by omega) f.2.length 0 [] [] (by omega) ⟨rfl,fun j hj=>by omega,fun j hj=>by omega,fun j hj=>by omega,fun j hj=>by omega⟩ .nil (by simp) (by
  show(Q51 (f.2.drop 0) 0).isSome =true;rw[Kg,h3]
  rfl)
 have g1':Fa9 (false,[]) (false,[]) f (f.2.length:Int) 0=_:=g1;exact⟨R,by rw[F2kE,g1',J0],g2⟩
theorem Qd1:∀(l:List DSaid) (v:Int),(Q51 l v).isSome =true→∀x∈l,Q23 x=true
 |[],_,_,x,hx=>by cases hx
 |y::l,v,h,x,hx=>by
  rw[Q51]at h
  by_cases c:Q23 y=true∧Qj y.1≤v
  ·rw[if_pos c]at h
   rcases Kd.1 hx with rfl|hx
   ·exact c.1
   ·exact Qd1 l _ h x hx
  ·rw[if_neg c]at h;cases h
theorem Qba{f:List DSaid}(h:Q17 f=true)(i:Nat)(hi:i<f.length):Q23 f[i]=true:=by
 obtain⟨_,_,h3⟩:=Qi h;exact Qd1 f 0 (by rw[h3];rfl) _ (K4 hi)
def Qlj(g:Int)(i:Nat):Bool:=bAnd .i64 (bShr .i64 g (i:Int)) 1==1
def Q24(T:List Int)(g node:Int):Bool:=T.any (fun x=>node==x)&&Qlj g (T.findIdx fun x=>node==x)
theorem Qdz(T:DLI)(hl:T.2.length≤1000)(g node:Int)(d:Nat):∀i:Nat,i+d=T.2.length→
  Fat g node T (T.2.length:Int) (i:Int)=some (bif (T.2.drop i).any (fun x=>node==x)then .inl (Qlj g (i+(T.2.drop i).findIdx fun x=>node==x))else .inr ()):=by
 induction d with
 |zero=>
  intro i hi;rw[FatE,gFo,K8 (by omega)];rfl
 |succ d ih=>
  intro i hi
  have hlt:i<T.2.length:=by omega
  rw[FatE,gTo,gTo,gTo,J2 T.2 _ i hlt,K2 hlt,List.any_cons,List.findIdx_cons,wru (by omega),gFo,up1o i,J1,ih (i+1) (by omega)]
  by_cases e:T.2[i]=node
  ·have e1:(T.2[i]==node)=true:=by rw[beq_iff_eq];exact e
   have e2:(node==T.2[i])=true:=by rw[beq_iff_eq];exact e.symm
   rw[e1,e2,cond_true,Bool.true_or,cond_true,cond_true];rfl
  ·have e1:(T.2[i]==node)=false:=beqF e;have e2:(node==T.2[i])=false:=beqF (fun h=>e h.symm);rw[e1,e2,cond_false,K27,cond_false]
   have e3:i+1+(T.2.drop (i+1)).findIdx (fun x=>node==x)=i+((T.2.drop (i+1)).findIdx (fun x=>node==x)+1):=by omega
   rw[e3]
theorem Qbl(T:DLI)(hl:T.2.length≤1000)(g node:Int):F1x T g node=some (Q24 T.2 g node):=by
 have e:=Qdz T hl g node T.2.length 0 (by omega);rw[Kg,K1o]at e;have e':Fat g node T (T.2.length:Int) 0=_:=e;rw[F1xE,e',J0,Q24];cases T.2.any (fun x=>node==x)<;>rfl
theorem Qax(T:DLI)(hl:T.2.length≤1000)(g node:Int)(h:node∈T.2):F55 T g node=some (Q24 T.2 g node):=by
 have hany:(T.2.any fun x=>node==x)=true:=Ku.2 ⟨node,h,by simp⟩;rw[F55E,Q8o T node (by omega),J0,Q24,hany,cond_true,gFo,Ky];rfl
theorem Q3w{f:List DSaid}{x:Int}:x∈Q5 f↔x=(f.length:Int)-1∨∃i:Nat,i<f.length∧x∈trk (f.getD i (0,0)).1 (i:Int):=by
 rw[Q5,Qm,Qao,Kd,List.mem_flatMap];constructor
 ·rintro(h|⟨i,h1,h2⟩)
  ·exact .inl h
  ·exact .inr ⟨i,K1x.1 h1,h2⟩
 ·rintro(h|⟨i,h1,h2⟩)
  ·exact .inl h
  ·exact .inr ⟨i,K1x.2 h1,h2⟩
theorem Qha{f:List DSaid}{i:Nat}(hi:i<f.length)(h:(f.getD i (0,0)).1 =7∨(f.getD i (0,0)).1 =8):(i:Int)∈Q5 f:=
 Q3w.2 (.inr ⟨i,hi,by unfold trk;rw[if_pos h];exact Kk⟩)
theorem Qh9{f:List DSaid}{i:Nat}(hi:i<f.length)(h:(f.getD i (0,0)).1 =7∨(f.getD i (0,0)).1 =8∨(f.getD i (0,0)).1 =4):(i:Int)-1∈Q5 f:=by
 refine Q3w.2 (.inr ⟨i,hi,?_⟩);unfold trk
 rcases h with h|h|h
 ·rw[if_pos (.inl h)];simp
 ·rw[if_pos (.inr h)];simp
 ·rw[if_neg (by omega),if_pos h];simp
theorem Qlb{f:List DSaid}:(f.length:Int)-1∈Q5 f:=Q3w.2 (.inl rfl)
theorem Q96{f:List DSaid}(h:f.length≤16):(Q5 f).length ≤33:=by
 have h1:=Q3o (Qao f);have h2:=Q75 f f.length 0;rw[←K1g]at h2
 have h3:(Qao f).length ≤1+2*f.length:=by rw[Qao,Kq];omega
 have h4:(Q5 f).length ≤(Qao f).length :=h1;omega
theorem Qj1{x:DSaid}(h:Q23 x=true):(x.1=1∧0≤x.2∧x.2≤2)∨(x.1=2)∨x.1=3∨x.1=4∨x.1=5∨x.1=6∨x.1=7∨x.1=8:=by
 unfold Q23 at h
 by_cases a1:x.1=1
 ·rw[if_pos a1,decide_eq_true_eq]at h;exact .inl ⟨a1,h⟩
 ·by_cases a2:x.1=2
  ·exact .inr (.inl a2)
  ·rw[if_neg a1,if_neg a2,K7,decide_eq_true_eq]at h;have h1:=h.1;unfold Qj at h1
   by_cases a3:x.1=3∨x.1=4
   ·omega
   ·by_cases a5:5≤x.1∧x.1≤8
    ·omega
    ·rw[if_neg (by omega),if_neg a3,if_neg a5]at h1;omega
theorem Qj4(f:Bool×List DSaid)(hf:Q17 f.2=true)(R:List DLI)(hR:OpsAre f.2 f.2.length R)(letter next:Int)(tb:Bool)(b b':Bool)(out:List Bool)(i:Nat)(hi:i<f.2.length)(ho:out.length=i):
  ∃v,F1y letter next (b,out) (false,R) (false,Q5 f.2) f (f.2.length:Int) (i:Int)=F1y letter next (b&&false,out++[v]) (false,R) (false,Q5 f.2) f (f.2.length:Int) ((i+1:Nat):Int)∧
   F1w f (tb,Q5 f.2) letter next (b',out) f (f.2.length:Int) (i:Int)=F1w f (tb,Q5 f.2) letter next (b'&&false,out++[v]) f (f.2.length:Int) ((i+1:Nat):Int):=by
 have hlim:=J4;obtain⟨n1,n2,n3⟩:=Qi hf;have htl:=Q96 n2;have hok:=Qba hf i hi
 have eg:f.2.getD i (0,0)=f.2[i]:=by simp[K1,hi]
 rw[←eg]at hok;have hRl:=hR.len;have t1:decide ((i:Int)<(f.2.length:Int))=true:=decide_eq_true (by omega);have t2:decide (0≤(i:Int))=true:=decide_eq_true (by omega);have t3:decide ((i:Int)<(R.length:Int))=true:=decide_eq_true (by omega)
 have tl:∀v:Bool,decide (out.length+[v].length ≤lim)=true:=fun v=>decide_eq_true (by simp;omega)
 have hpos:=hR.pos i hi;have hmany:=hR.many i hi
 have says:∀node,F1x (tb,Q5 f.2) next node=some (Q24 (Q5 f.2) next node):=fun node=>Qbl (tb,Q5 f.2) (by simp only;omega) next node
 have ass:∀node,node∈Q5 f.2→F55 (false,Q5 f.2) next node=some (Q24 (Q5 f.2) next node):=fun node h=>Qax (false,Q5 f.2) (by simp only;omega) next node h
 have hun:∀n:Nat,n<4611686018427387904→i64.wrap ((n:Int)+1)=((n+1:Nat):Int):=fun n h=>up1 n h
 have upi:=up1 i (by omega);rw[F1yE,F1wE];simp only[t1,t2,cond_true,Ql,upi,J1,tl];generalize hx:f.2.getD i (0,0)=x at *
 rcases Qj1 hok with⟨h,m1,m2⟩|h|h|h|h|h|h|h
 ·simp only[h,Int.reduceBEq,beq_self_eq_true,cond_true,cond_false,wru (n:=x.2) (by omega),gF (show¬x.2<0 by omega)];exact⟨_,rfl,rfl⟩
 ·simp only[h,Int.reduceBEq,beq_self_eq_true,cond_true,cond_false];exact⟨_,rfl,rfl⟩
 ·have hn:Qj x.1=1:=by rw[h];rfl
  have o1:=hR.op1 i hi (by rw[hx];exact hn);rw[hn]at hpos hmany
  have e1:(i:Int)-1=((i-1:Nat):Int):=by omega
  have d1:decide (((i-1:Nat):Int)<(out.length:Int))=true:=decide_eq_true (by omega);have d2:decide (0≤((i-1:Nat):Int))=true:=decide_eq_true (by omega);simp only[h,Int.reduceBEq,beq_self_eq_true,cond_true,cond_false,t3,hmany,o1,e1,d1,d2,K3,Int.reduceLT,decide_true,wr (n:=((i-1:Nat):Int)) (by omega)];exact⟨_,rfl,rfl⟩
 ·have hn:Qj x.1=1:=by rw[h];rfl
  have o1:=hR.op1 i hi (by rw[hx];exact hn);rw[hn]at hpos hmany;have e0:=ass _ (Qh9 hi (by rw[hx];exact .inr (.inr h)));simp only[h,Int.reduceBEq,beq_self_eq_true,cond_true,cond_false,t3,hmany,o1,e0,says,J0,Int.reduceLT,decide_true,wr (n:=(i:Int)-1) (by omega),tl];exact⟨_,rfl,rfl⟩
 all_goals
  have hn:Qj x.1=2:=by rw[h];rfl
  obtain⟨o1,k,o2,o3⟩:=hR.op2 i hi (by rw[hx];exact hn);rw[hn]at hpos hmany;have hk:=Qeq o3
  have e1:(i:Int)-1=((i-1:Nat):Int):=by omega
  have d1:decide (((i-1:Nat):Int)<(out.length:Int))=true:=decide_eq_true (by omega);have d2:decide (0≤((i-1:Nat):Int))=true:=decide_eq_true (by omega);have d3:decide ((k:Int)<(out.length:Int))=true:=decide_eq_true (by omega);have d4:decide (0≤(k:Int))=true:=decide_eq_true (by omega);have hfrom:=Qkq f (by omega) o3 (by omega)
  have e2:i64.wrap (((k+1:Nat):Int)-1)=(k:Int):=by rw[wr (by omega)];omega
  try have e3:=ass _ (Qha hi (by rw[hx];first|exact .inl h|exact .inr h))
  simp only[h,Int.reduceBEq,beq_self_eq_true,cond_true,cond_false,t3,hmany,o1,o2,e1,e2,d1,d2,d3,d4,K3,Int.reduceLT,decide_true,wr (n:=((i-1:Nat):Int)) (by omega),hfrom,says,J0,tl]
  try simp only[e3,J0,tl,cond_true]
  cases out.getD (i-1) false<;>cases out.getD k false<;>exact⟨_,rfl,rfl⟩
theorem Q1a{f:List DSaid}(h:Q10 f=true):Q17 f=true∧(Q5 f).length ≤5:=by
 simp only[Q10,K7,decide_eq_true_eq]at h;exact⟨h.1,by omega⟩
theorem Qhb{f:List DSaid}(R:List DLI)(hR:OpsAre f f.length R)(h0:1≤f.length):∀x∈Q5 f,0≤x∧x<(f.length:Int):=by
 intro x hx
 rcases Q3w.1 hx with rfl|⟨i,hi,h⟩
 ·omega
 ·have hp:=hR.pos i hi;unfold trk at h
  by_cases c:(f.getD i (0,0)).1 =7∨(f.getD i (0,0)).1 =8
  ·have:Qj (f.getD i (0,0)).1 =2:=by rcases c with c|c<;>rw[c]<;>rfl
   rw[if_pos c]at h;simp only[Kd,List.not_mem_nil,or_false]at h;omega
  ·rw[if_neg c]at h
   by_cases c4:(f.getD i (0,0)).1 =4
   ·have:Qj (f.getD i (0,0)).1 =1:=by rw[c4];rfl
    rw[if_pos c4]at h;simp only[Kd,List.not_mem_nil,or_false]at h;omega
   ·rw[if_neg c4]at h;cases h
theorem Qm1(f:Bool×List DSaid)(hf:Q17 f.2=true)(R:List DLI)(hR:OpsAre f.2 f.2.length R)(letter next:Int)(tb:Bool)(d:Nat):∀(i:Nat) (b b':Bool) (out:List Bool),i+d=f.2.length→out.length=i→
  ∃out' c c',F1y letter next (b,out) (false,R) (false,Q5 f.2) f (f.2.length:Int) (i:Int)=some (c,out')∧F1w f (tb,Q5 f.2) letter next (b',out) f (f.2.length:Int) (i:Int)=some (c',out')∧out'.length=f.2.length:=by
 induction d with
 |zero=>
  intro i b b' out hi ho;exact⟨out,b,b',by rw[F1yE,gFo],by rw[F1wE,gFo],by omega⟩
 |succ d ih=>
  intro i b b' out hi ho
  obtain⟨v,e1,e2⟩:=Qj4 f hf R hR letter next tb b b' out i (by omega) ho
  rw[e1,e2];exact ih (i+1) _ _ _ (by omega) (by simp[ho])
theorem Qj3(f:Bool×List DSaid)(hf:Q17 f.2=true)(letter next:Int)(tb:Bool):
  ∃out c c',Fv f letter next=some (c,out)∧Ft f (tb,Q5 f.2) letter next=some (c',out)∧out.length=f.2.length:=by
 obtain⟨R,r1,hR⟩:=Qgr f hf
 obtain⟨out,c,c',e1,e2,e3⟩:=Qm1 f hf R hR letter next tb f.2.length 0 false true [] (by omega) rfl
 have e1':F1y letter next (false,[]) (false,R) (false,Q5 f.2) f (f.2.length:Int) 0=_:=e1
 have e2':F1w f (tb,Q5 f.2) letter next (true,[]) f (f.2.length:Int) 0=_:=e2
 exact⟨out,c,c',by rw[FvE,r1,J0,Q3 f hf,J0];simp only[e1',J0],by rw[FtE,e2',J0],e3⟩
theorem Qih(T:List Int)(hT:T.length≤5)(out:List Bool)(hin:∀x∈T,0≤x∧x<(out.length:Int))(tb c c':Bool)(d:Nat):∀(i a:Nat),i+d=T.length→a<2^i→
  ∃g:Nat,F75 (c,out) (a:Int) (false,T) (T.length:Int) (i:Int)=some (g:Int)∧F6k (c',out) (a:Int) (tb,T) (T.length:Int) (i:Int)=some (g:Int)∧g<2^T.length:=by
 induction d with
 |zero=>
  intro i a hi ha
  obtain rfl:i=T.length:=by omega
  exact⟨a,by rw[F75E,gFo],by rw[F6kE,gFo],ha⟩
 |succ d ih=>
  intro i a hi ha
  have hlt:i<T.length:=by omega
  obtain⟨m1,m2⟩:=hin _ (K4 hlt);have hp:(2:Nat)^i≤2^5:=Nat.pow_le_pow_right (by decide) (by omega);have hp1:(2:Nat)^(i+1)=2^i*2:=Nat.pow_succ ..;have hor:a|||2^i<2^(i+1):=Nat.or_lt_two_pow (by omega) (by rw[hp1];have:=Nat.two_pow_pos i;omega)
  have e:bOr .i64 (a:Int) (bShl .i64 1 (i:Int))=((a|||2^i:Nat):Int):=by
   rw[Q2k i (by omega),Qet a (2^i) (by omega) (by omega)]
  rw[F75E,F6kE];simp only[gT (show(i:Int)<(T.length:Int) by omega),gT (show(0:Int)≤(i:Int) by omega),J2 T _ i hlt,gT m1,gT m2,wru (n:=(i:Int)) (by omega),gF (show¬(i:Int)<0 by omega),up1o i,J1,e]
  cases out.getD (T[i]).toNat false with
  |true=>exact ih (i+1) _ (by omega) hor
  |false=>exact ih (i+1) a (by omega) (by omega)
noncomputable def gssF(f:Bool×List DSaid)(letter next:Int):Nat:=((F2r f letter next).getD 0).toNat
def Q0(f:List DSaid):Nat:=2^(Q5 f).length
theorem Qt{f:List DSaid}(h:Q10 f=true):1≤Q0 f∧Q0 f≤32:=by
 have h1:Q0 f≤2^5:=Nat.pow_le_pow_right (by decide) (Q1a h).2;have h2:0<Q0 f:=Nat.two_pow_pos _;omega
theorem Q3s(f:Bool×List DSaid)(hf:Q10 f.2=true)(letter next:Int)(tb:Bool):
  F2r f letter next=some (gssF f letter next:Int)∧F32 f (tb,Q5 f.2) letter next=some (gssF f letter next:Int)∧gssF f letter next<Q0 f.2:=by
 obtain⟨h1,h2⟩:=Q1a hf;obtain⟨R,r1,hR⟩:=Qgr f h1;have hin:=Qhb R hR (Qi h1).1
 obtain⟨out,c,c',e1,e2,e3⟩:=Qj3 f h1 letter next tb
 obtain⟨g,g1,g2,g3⟩:=Qih (Q5 f.2) h2 out (by rw[e3];exact hin) tb c c' (Q5 f.2).length 0 0 (by omega) (by decide);have g1':F75 (c,out) 0 (false,Q5 f.2) ((Q5 f.2).length :Int) 0=_:=g1;have g2':F6k (c',out) 0 (tb,Q5 f.2) ((Q5 f.2).length :Int) 0=_:=g2
 have i1:F2r f letter next=some (g:Int):=by
  rw[F2rE,e1,J0,Q3 f h1,J0];simp only[g1',J0]
 have hg:gssF f letter next=g:=by rw[gssF,i1];rfl
 rw[hg];refine⟨i1,?_,g3⟩;rw[F32E,e2,J0];simp only[g2',J0]
theorem Q8u(n:Nat)(h:n≤5):bShl .i64 1 (n:Int)=((2^n:Nat):Int):=Q2k n (by omega)
theorem Q6k(f:Bool×List DSaid)(hf:Q10 f.2=true):F9 f=some (Q0 f.2:Int):=by
 obtain⟨h1,h2⟩:=Q1a hf;rw[F9E,Q3 f h1,J0,gFo,Q8u _ h2];rfl
def upTo(m:Nat)(q:Int→Bool):List Int:=((List.range m).filter fun j:Nat=>q (j:Int)).map Int.ofNat
theorem Q53(m:Nat)(q:Int→Bool)(F:Bool×List Int→Int→Option DLI)
  (hs:∀(j:Nat) (b:Bool) (o:List Int),j<m→o.length≤j→F (b,o) (j:Int)=bif q (j:Int)then F (b&&false,o++[(j:Int)]) ((j+1:Nat):Int)else F (b,o) ((j+1:Nat):Int))
  (he:∀(b:Bool) (o:List Int),F (b,o) (m:Int)=some (b,o))(b:Bool):∃c,F (b,[]) 0=some (c,upTo m q):=by
 have key:∀(d j:Nat) (b:Bool) (o:List Int),j+d=m→o.length≤j→∃c,F (b,o) (j:Int)=some (c,o++((List.range' j d).filter fun j:Nat=>q (j:Int)).map Int.ofNat):=by
  intro d
  induction d with
  |zero=>
   intro j b o hj ho
   obtain rfl:j=m:=by omega
   exact⟨b,by rw[he];simp⟩
  |succ d ih=>
   intro j b o hj ho;rw[hs j b o (by omega) ho,K1a,K1n]
   cases hq:q (j:Int)with
   |true=>
    obtain⟨c,g⟩:=ih (j+1) (b&&false) (o++[(j:Int)]) (by omega) (by simp;omega);exact⟨c,by rw[cond_true,g];simp⟩
   |false=>
    obtain⟨c,g⟩:=ih (j+1) b o (by omega) (by omega);exact⟨c,by rw[cond_false,g];simp⟩
 obtain⟨c,g⟩:=key m 0 b [] (by omega) (by simp);exact⟨c,by rw[upTo,K1g];exact g⟩
theorem Q4j(m:Nat)(q:Int→Bool):(upTo m q).length ≤m:=by
 rw[upTo,Kh];refine K14 (K1q _ _) ?_;simp
theorem Qcx{m:Nat}{q:Int→Bool}{x:Int}:x∈upTo m q↔(0≤x∧x<(m:Int))∧q x=true:=by
 simp only[upTo,Kx,K1e,K1x];constructor
 ·rintro⟨i,⟨h1,h2⟩,rfl⟩
  exact⟨⟨Int.natCast_nonneg _,by simp;omega⟩,h2⟩
 ·rintro⟨⟨h1,h2⟩,h3⟩
  exact⟨x.toNat,⟨by omega,by rw[K1t h1];exact h3⟩,K1t h1⟩
def Q60(T:List Int)(op i g:Int):Bool:=if op=7 then !Q24 T g i||Q24 T g (i-1)else Q24 T g i|| !Q24 T g (i-1)
def Q5p(f:List DSaid)(i:Nat):List (List Int):=if(f.getD i (0,0)).1 =7∨(f.getD i (0,0)).1 =8 then[upTo (Q0 f) (Q60 (Q5 f) (f.getD i (0,0)).1 (i:Int))]else[]
def Q44(f:List DSaid):List (List Int):=(List.range f.length).flatMap (Q5p f)
theorem Qfp(f:Bool×List DSaid)(hf:Q10 f.2=true)(tb:Bool)(out:DRI)(i:Nat)(hi:i<f.2.length)(x:DSaid)(hx:x.1=7∨x.1=8)(t12:Bool×List DSaid)(t13 t14:Int):
  ∃c,F2s (tb,Q5 f.2) out (i:Int) x (true,[]) 0 t12 t13 t14=some (c,upTo (Q0 f.2) (Q60 (Q5 f.2) x.1 (i:Int))):=by
 have hlim:=J4;obtain⟨h1,h2⟩:=Q1a hf;have hn:=(Qi h1).2.1;have hm:=Qt hf
 have em:bShl .i64 1 (u64.wrap ((Q5 f.2).length :Int))=(Q0 f.2:Int):=by rw[wru (by omega),Q8u _ h2];rfl
 have says:∀g node,F1x (tb,Q5 f.2) g node=some (Q24 (Q5 f.2) g node):=fun g node=>Qbl (tb,Q5 f.2) (by simp only;omega) g node
 refine Q53 (Q0 f.2) (Q60 (Q5 f.2) x.1 (i:Int)) (fun o j=>F2s (tb,Q5 f.2) out (i:Int) x o j t12 t13 t14) (fun j b o hj ho=> ?_) (fun b o=> ?_) true
 ·have tl:decide (o.length+[(j:Int)].length ≤lim)=true:=decide_eq_true (by simp;omega);rw[F2sE];simp only[em,gF (show¬u64.wrap ((Q5 f.2).length :Int)<0 by rw[wru (by omega)];omega),gT (show(j:Int)<(Q0 f.2:Int) by omega),says,J0,wr (n:=(i:Int)-1) (by omega),up1o j,J1,tl,cond_true];unfold Q60
  rcases hx with hx|hx
  ·simp only[hx,Int.reduceBEq,beq_self_eq_true,cond_true,cond_false,if_true];cases Q24 (Q5 f.2) (j:Int) (i:Int)<;>cases Q24 (Q5 f.2) (j:Int) ((i:Int)-1)<;>rfl
  ·simp only[hx,Int.reduceBEq,beq_self_eq_true,cond_true,cond_false];rw[if_neg (by decide)];cases Q24 (Q5 f.2) (j:Int) (i:Int)<;>cases Q24 (Q5 f.2) (j:Int) ((i:Int)-1)<;>rfl
 ·rw[F2sE];simp only[em,gF (show¬u64.wrap ((Q5 f.2).length :Int)<0 by rw[wru (by omega)];omega)];rw[gFo]
theorem Qbk(f:Bool×List DSaid)(hf:Q10 f.2=true)(tb:Bool)(d:Nat):∀(i:Nat) (b:Bool) (o:List DLI),i+d=f.2.length→o.length≤i→
  ∃c X,F5x (tb,Q5 f.2) (b,o) f (f.2.length:Int) (i:Int)=some (c,o++X)∧X.map Prod.snd=(List.range' i d).flatMap (Q5p f.2)∧X.length≤d:=by
 have hlim:=J4;obtain⟨h1,h2⟩:=Q1a hf;have hn:=(Qi h1).2.1
 induction d with
 |zero=>
  intro i b o hi ho;exact⟨b,[],by rw[F5xE,gFo];simp,by simp,by simp⟩
 |succ d ih=>
  intro i b o hi ho
  have hlt:i<f.2.length:=by omega
  rw[F5xE,gTo,gTo,gTo,Ql,up1o i,K1a,K18]
  by_cases c:(f.2.getD i (0,0)).1 =7∨(f.2.getD i (0,0)).1 =8
  ·obtain⟨c0,e0⟩:=Qfp f hf tb (b,o) i hlt (f.2.getD i (0,0)) c f (f.2.length:Int) (i:Int);obtain⟨c1,X,g1,g2,g3⟩:=ih (i+1) (b&&false) (o++[(c0,upTo (Q0 f.2) (Q60 (Q5 f.2) (f.2.getD i (0,0)).1 (i:Int)))]) (by omega) (by simp;omega);refine⟨c1,(c0,upTo (Q0 f.2) (Q60 (Q5 f.2) (f.2.getD i (0,0)).1 (i:Int)))::X,?_,?_,by simp;omega⟩
   ·simp only[e0,J0]
    rcases c with c|c<;>simp only[c,Int.reduceBNe,bne_self_eq_false,cond_true,cond_false]<;>rw[c]at g1<;>rw[gT (by simp;omega),J1,g1]<;>simp
   ·rw[Q5p,if_pos c,K12,g2];rfl
  ·obtain⟨c1,X,g1,g2,g3⟩:=ih (i+1) b o (by omega) (by omega);refine⟨c1,X,?_,?_,by omega⟩
   ·rw[bT (by rw[bne_iff_ne];omega),bT (by rw[bne_iff_ne];omega),J1,g1]
   ·rw[Q5p,if_neg c,g2];rfl
theorem Qij(f:Bool×List DSaid)(hf:Q10 f.2=true)(tb:Bool):∃c X,Fk f (tb,Q5 f.2)=some (c,X)∧X.map Prod.snd=Q44 f.2∧X.length≤f.2.length:=by
 obtain⟨c,X,g1,g2,g3⟩:=Qbk f hf tb f.2.length 0 true [] (by omega) (by simp);have g1':F5x (tb,Q5 f.2) (true,[]) f (f.2.length:Int) 0=_:=g1;exact⟨c,X,by rw[FkE,g1',J0];rfl,by rw[g2,Q44,K1g],g3⟩
theorem Qfo(f:Bool×List DSaid)(hf:Q10 f.2=true)(R:List DLI)(hR:OpsAre f.2 f.2.length R)(i:Nat)(hi:i<f.2.length)(hx:(f.2.getD i (0,0)).1 =7∨(f.2.getD i (0,0)).1 =8):
  ∃c,F2g f ((false,Q5 f.2),((i:Int),((false,R),((f.2.getD i (0,0)),()))))=some (c,upTo (Q0 f.2) (Q60 (Q5 f.2) (f.2.getD i (0,0)).1 (i:Int))):=by
 have hlim:=J4;obtain⟨h1,h2⟩:=Q1a hf;have hn:=(Qi h1).2.1;have hm:=Qt hf;have hRl:=hR.len
 have hneed:Qj (f.2.getD i (0,0)).1 =2:=by rcases hx with h|h<;>rw[h]<;>rfl
 have hmany:=hR.many i hi;obtain⟨o1,_⟩:=hR.op2 i hi hneed;rw[hneed]at hmany
 have ass:∀g node,node∈Q5 f.2→F55 (false,Q5 f.2) g node=some (Q24 (Q5 f.2) g node):=fun g node h=>Qax (false,Q5 f.2) (by simp only;omega) g node h
 have one:∀g:Int,F6f g (false,Q5 f.2) (i:Int) (false,R) (f.2.getD i (0,0))=some (Q60 (Q5 f.2) (f.2.getD i (0,0)).1 (i:Int) g):=by
  intro g;rw[F6fE,ass g _ (Qha hi hx),J0,gTo,gTs];simp only[Ql,hmany,Int.reduceLT,decide_true,cond_true,o1];rw[ass g _ (Qh9 hi (by omega)),J0];unfold Q60
  rcases hx with hx|hx
  ·simp only[hx,Int.reduceBEq,beq_self_eq_true,cond_true,cond_false,if_true];cases Q24 (Q5 f.2) g (i:Int)<;>cases Q24 (Q5 f.2) g ((i:Int)-1)<;>rfl
  ·simp only[hx,Int.reduceBEq,beq_self_eq_true,cond_true,cond_false];rw[if_neg (by decide)];cases Q24 (Q5 f.2) g (i:Int)<;>cases Q24 (Q5 f.2) g ((i:Int)-1)<;>rfl
 obtain⟨c,e⟩:=Q53 (Q0 f.2) (Q60 (Q5 f.2) (f.2.getD i (0,0)).1 (i:Int)) (fun o j=>F7l ((false,Q5 f.2),((i:Int),((false,R),((f.2.getD i (0,0)),())))) o (Q0 f.2:Int) j) (fun j b o hj ho=>by
  have tl:decide (o.length+[(j:Int)].length ≤lim)=true:=decide_eq_true (by simp;omega);rw[F7lE,gTo]
  simp only[one,J0,up1o j,J1,tl,cond_true]) (fun b o=>by
  rw[F7lE,gFo]) false
 exact⟨c,by rw[F2gE,Q6k f hf,J0];rw[show F7l _ (false,[]) (Q0 f.2:Int) 0=_ from e,J0]⟩
theorem Qdp(f:Bool×List DSaid)(hf:Q10 f.2=true)(R:List DLI)(hR:OpsAre f.2 f.2.length R)(d:Nat):∀(i:Nat) (b:Bool) (o:List DLI),i+d=f.2.length→o.length≤i→
  ∃c X,F6a f (b,o) (false,R) (false,Q5 f.2) f (f.2.length:Int) (i:Int)=some (c,o++X)∧X.map Prod.snd=(List.range' i d).flatMap (Q5p f.2)∧X.length≤d:=by
 have hlim:=J4;obtain⟨h1,h2⟩:=Q1a hf;have hn:=(Qi h1).2.1
 induction d with
 |zero=>
  intro i b o hi ho;exact⟨b,[],by rw[F6aE,gFo];simp,by simp,by simp⟩
 |succ d ih=>
  intro i b o hi ho
  have hlt:i<f.2.length:=by omega
  rw[F6aE,gTo,gTo,gTo,Ql,up1o i,K1a,K18]
  by_cases c:(f.2.getD i (0,0)).1 =7∨(f.2.getD i (0,0)).1 =8
  ·obtain⟨c0,e0⟩:=Qfo f hf R hR i hlt c;obtain⟨c1,X,g1,g2,g3⟩:=ih (i+1) (b&&false) (o++[(c0,upTo (Q0 f.2) (Q60 (Q5 f.2) (f.2.getD i (0,0)).1 (i:Int)))]) (by omega) (by simp;omega);refine⟨c1,(c0,upTo (Q0 f.2) (Q60 (Q5 f.2) (f.2.getD i (0,0)).1 (i:Int)))::X,?_,?_,by simp;omega⟩
   ·simp only[e0,J0]
    rcases c with c|c<;>simp only[c,Int.reduceBNe,bne_self_eq_false,cond_true,cond_false]<;>rw[c]at g1<;>rw[gT (by simp;omega),J1,g1]<;>simp
   ·rw[Q5p,if_pos c,K12,g2];rfl
  ·obtain⟨c1,X,g1,g2,g3⟩:=ih (i+1) b o (by omega) (by omega);refine⟨c1,X,?_,?_,by omega⟩
   ·rw[bT (by rw[bne_iff_ne];omega),bT (by rw[bne_iff_ne];omega),J1,g1]
   ·rw[Q5p,if_neg c,g2];rfl
theorem Qkm(f:Bool×List DSaid)(hf:Q10 f.2=true):∃c X,F17 f=some (c,X)∧X.map Prod.snd=Q44 f.2∧X.length≤f.2.length:=by
 obtain⟨h1,h2⟩:=Q1a hf;obtain⟨R,r1,hR⟩:=Qgr f h1;obtain⟨c,X,g1,g2,g3⟩:=Qdp f hf R hR f.2.length 0 false [] (by omega) (by simp);have g1':F6a f (false,[]) (false,R) (false,Q5 f.2) f (f.2.length:Int) 0=_:=g1;exact⟨c,X,by rw[F17E,r1,J0,Q3 f h1,J0];simp only[g1',J0];rfl,by rw[g2,Q44,K1g],g3⟩
def Q31(f:List DSaid):List Int:=upTo (Q0 f) fun g=> !Q24 (Q5 f) g ((f.length:Int)-1)
theorem Qm4(f:Bool×List DSaid)(hf:Q10 f.2=true):∃c,F4x f false=some (c,Q31 f.2):=by
 have hlim:=J4;obtain⟨h1,h2⟩:=Q1a hf;have hn:=(Qi h1).2.1;have hm:=Qt hf
 have one:∀g:Int,F7u g (false,Q5 f.2) f false=some (!Q24 (Q5 f.2) g ((f.2.length:Int)-1)):=by
  intro g;rw[F7uE,wr (by omega),Qax (false,Q5 f.2) (by simp only;omega) g _ Qlb,J0];cases Q24 (Q5 f.2) g ((f.2.length:Int)-1)<;>rfl
 obtain⟨c,e⟩:=Q53 (Q0 f.2) (fun g=> !Q24 (Q5 f.2) g ((f.2.length:Int)-1)) (fun o j=>F8w ((false,Q5 f.2),(f,(false,()))) o (Q0 f.2:Int) j) (fun j b o hj ho=>by
  have tl:decide (o.length+[(j:Int)].length ≤lim)=true:=decide_eq_true (by simp;omega);rw[F8wE,gTo]
  simp only[one,J0,up1o j,J1,tl,cond_true]) (fun b o=>by
  rw[F8wE,gFo]) false
 have e':F8w ((false,Q5 f.2),(f,(false,()))) (false,[]) (Q0 f.2:Int) 0=_:=e;exact⟨c,by rw[F4xE,Q3 f h1,J0,F3dE,Q6k f hf,J0];simp only[e',J0];rfl⟩
noncomputable def Q1m(f:Bool×List DSaid)(g l:Nat):List DEdge:=((List.range (Q0 f.2)).filter fun h:Nat=>gssF f (l:Int) (h:Int)==g).map fun h:Nat=>((g:Int),((l:Int),(h:Int)))
noncomputable def Q1r(f:Bool×List DSaid):List DEdge:=(List.range (Q0 f.2)).flatMap fun g=>(List.range 8).flatMap fun l=>Q1m f g l
theorem Qkf(f:Bool×List DSaid)(t4:DAuto)(hf:Q10 f.2=true)(tb nt:Bool)(o0:Int)(o1:DLI)(o3:DRI)(g l:Nat)(d:Nat):∀(j:Nat) (b:Bool) (E:List DEdge),j+d=Q0 f.2→E.length+d≤1000000→
  ∃c,F6n f nt t4 (tb,Q5 f.2) (Q0 f.2:Int) o0 o1 (b,E) o3 (g:Int) (l:Int) (j:Int)=some (o0,o1,(c,E++((List.range' j d).filter fun h:Nat=>gssF f (l:Int) (h:Int)==g).map fun h:Nat=>((g:Int),((l:Int),(h:Int)))),o3):=by
 have hlim:=J4;have hm:=Qt hf
 induction d with
 |zero=>
  intro j b E hj hE;exact⟨b,by rw[F6nE,gFo];simp⟩
 |succ d ih=>
  intro j b E hj hE;rw[F6nE,gTo,(Q3s f hf (l:Int) (j:Int) tb).2.1,J0,up1o j,K1a,K1n]
  by_cases e:gssF f (l:Int) (j:Int)=g
  ·obtain⟨c,h⟩:=ih (j+1) (b&&false) (E++[((g:Int),((l:Int),(j:Int)))]) (by omega) (by simp;omega);refine⟨c,?_⟩;rw[e,beq_self_eq_true,beq_self_eq_true,cond_true,if_pos rfl,gT (by simp;omega),J1,h];simp
  ·obtain⟨c,h⟩:=ih (j+1) b E (by omega) (by omega);refine⟨c,?_⟩;rw[show((gssF f (l:Int) (j:Int):Int)==(g:Int))=false from beqF (by omega),cond_false,show(gssF f (l:Int) (j:Int)==g)=false from by rw[beq_eq_false_iff_ne];exact e,if_neg (by decide),J1,h]
theorem Q2t(f:Bool×List DSaid)(g l:Nat):(Q1m f g l).length ≤Q0 f.2:=by
 rw[Q1m,Kh];refine K14 (K1q _ _) ?_;simp
theorem Q16{α β:Type}(l:List α)(h:α→List β)(n:Nat)(hn:∀x∈l,(h x).length ≤n):(l.flatMap h).length ≤l.length*n:=by
 induction l with
 |nil=>simp
 |cons x l ih=>
  have h1:=hn x Kk
  have h2:=ih fun y hy=>hn y (K9 _ hy)
  rw[K18,Kf,Kq,K1b];omega
theorem Qke(f:Bool×List DSaid)(t4:DAuto)(hf:Q10 f.2=true)(tb nt:Bool)(o0:Int)(o1:DLI)(o3:DRI)(g:Nat)(d:Nat):∀(l:Nat) (b:Bool) (E:List DEdge),l+d=8→E.length+32*d≤100000→
  ∃c,F7z f nt t4 (tb,Q5 f.2) (Q0 f.2:Int) o0 o1 (b,E) o3 (g:Int) (l:Int)=some (o0,o1,(c,E++(List.range' l d).flatMap fun l=>Q1m f g l),o3):=by
 have hm:=Qt hf
 induction d with
 |zero=>
  intro l b E hl hE;exact⟨b,by rw[F7zE,gFo];simp⟩
 |succ d ih=>
  intro l b E hl hE;obtain⟨c,h⟩:=Qkf f t4 hf tb nt o0 o1 o3 g l (Q0 f.2) 0 b E (by omega) (by omega);rw[←K1g]at h;have hr:=Q2t f g l;obtain⟨c2,h2⟩:=ih (l+1) c (E++Q1m f g l) (by omega) (by simp;omega);refine⟨c2,?_⟩;have h':F6n f nt t4 (tb,Q5 f.2) (Q0 f.2:Int) o0 (o1.1,o1.2) (b,E) o3 (g:Int) (l:Int) 0=_:=h;rw[F7zE,gTo];simp only[h',J0,J1,up1o l];have h2':F7z f nt t4 (tb,Q5 f.2) (Q0 f.2:Int) o0 (o1.1,o1.2) (c,E++Q1m f g l) o3 (g:Int) ((l+1:Nat):Int)=_:=h2;rw[K1a,K18,←Kj];exact h2'
theorem Qkd(f:Bool×List DSaid)(t4:DAuto)(hf:Q10 f.2=true)(tb:Bool)(o0:Int)(o3:DRI)(d:Nat):∀(g:Nat) (a b:Bool) (o:List Int) (E:List DEdge),g+d=Q0 f.2→o.length≤g→E.length≤256*g→
  ∃c c',F6c f true t4 (tb,Q5 f.2) (Q0 f.2:Int) o0 (a,o) (b,E) o3 (g:Int)=some (o0,(c,o++((List.range' g d).filter fun j:Nat=> !Q24 (Q5 f.2) (j:Int) ((f.2.length:Int)-1)).map Int.ofNat),(c',E++(List.range' g d).flatMap fun g=>(List.range 8).flatMap fun l=>Q1m f g l),o3):=by
 have hlim:=J4;have hm:=Qt hf;obtain⟨h1,h2⟩:=Q1a hf;have hn:=(Qi h1).2.1
 induction d with
 |zero=>
  intro g a b o E hg ho hE;exact⟨a,b,by rw[F6cE,gFo];simp⟩
 |succ d ih=>
  intro g a b o E hg ho hE
  have hlen:((List.range 8).flatMap fun l=>Q1m f g l).length ≤256:=by
   have:=Q16 (List.range 8) (fun l=>Q1m f g l) 32 (fun l _=>by have:=Q2t f g l;omega);simpa using this
  have says:=Qbl (tb,Q5 f.2) (by simp only;omega) (g:Int) ((f.2.length:Int)-1);rw[F6cE,gTo,wr (n:=(f.2.length:Int)-1) (by omega),says,J0,up1o g,K1a,K1n,K18]
  have two8:∀(a:Bool) (o:List Int),∃c,F7z f true t4 (tb,Q5 f.2) (Q0 f.2:Int) o0 (a,o) (b,E) o3 (g:Int) 0=some (o0,(a,o),(c,E++(List.range 8).flatMap fun l=>Q1m f g l),o3):=by
   intro a o;obtain⟨c,h⟩:=Qke f t4 hf tb true o0 (a,o) o3 g 8 0 b E (by omega) (by omega);rw[←K1g]at h;exact⟨c,h⟩
  cases hs:Q24 (Q5 f.2) (g:Int) ((f.2.length:Int)-1)with
  |false=>
   obtain⟨c,e⟩:=two8 (a&&false) (o++[(g:Int)]);obtain⟨c2,c3,e2⟩:=ih (g+1) (a&&false) c (o++[(g:Int)]) (E++(List.range 8).flatMap fun l=>Q1m f g l) (by omega) (by simp;omega) (by rw[Kf];omega);refine⟨c2,c3,?_⟩;rw[show(!(false==true))=true from rfl,cond_true,gT (by simp;omega),e,J0];simp only;rw[J1,e2];simp
  |true=>
   obtain⟨c,e⟩:=two8 a o;obtain⟨c2,c3,e2⟩:=ih (g+1) a c o (E++(List.range 8).flatMap fun l=>Q1m f g l) (by omega) (by omega) (by rw[Kf];omega);refine⟨c2,c3,?_⟩;rw[show(!(true==true))=false from rfl,cond_false,e,J0];simp only;rw[J1,e2];simp
theorem Qks(f:Bool×List DSaid)(hf:Q10 f.2=true):∃c c' c'' X,Fq f true=some ((Q0 f.2:Int),(c,Q31 f.2),(c',Q1r f),(c'',X))∧X.map Prod.snd=Q44 f.2∧X.length≤f.2.length:=by
 obtain⟨h1,h2⟩:=Q1a hf;have hn:=(Qi h1).2.1;have hm:=Qt hf;obtain⟨tb,e1⟩:=Q7u f (by omega);obtain⟨c'',X,g1,g2,g3⟩:=Qij f hf tb
 have em:bShl .i64 1 (u64.wrap ((Q5 f.2).length :Int))=(Q0 f.2:Int):=by rw[wru (by omega),Q8u _ h2];rfl
 obtain⟨c,c',e2⟩:=Qkd f (0,((true,[]),((true,[]),(true,[])))) hf tb (Q0 f.2:Int) (c'',X) (Q0 f.2) 0 true true [] [] (by omega) (by simp) (by simp);have e2':F6c f true (0,((true,[]),((true,[]),(true,[])))) (tb,Q5 f.2) (Q0 f.2:Int) (Q0 f.2:Int) (true,[]) (true,[]) (c'',X) 0=_:=e2;refine⟨c,c',c'',X,?_,g2,g3⟩;rw[FqE,e1,J0,gF (by rw[wru (by simp only;omega)];simp only;omega),g1,J0];simp only[em,e2',J0,Q31,upTo,Q1r,Kt,K1g]
theorem Q5l(f:Bool×List DSaid)(hf:Q10 f.2=true):(Q1r f).length ≤8192:=by
 have hm:=Qt hf
 have h1:=Q16 (List.range (Q0 f.2)) (fun g=>(List.range 8).flatMap fun l=>Q1m f g l) 256 (fun g _=>by
  have:=Q16 (List.range 8) (fun l=>Q1m f g l) 32 (fun l _=>by have:=Q2t f g l;omega)
  simpa using this)
 rw[List.length_range]at h1;rw[Q1r];omega
theorem Q5e{f:Bool×List DSaid}{x:DEdge}:x∈Q1r f↔∃g l h:Nat,g<Q0 f.2∧l<8∧h<Q0 f.2∧gssF f (l:Int) (h:Int)=g∧x=((g:Int),((l:Int),(h:Int))):=by
 simp only[Q1r,Q1m,List.mem_flatMap,Kx,K1e,K1x,beq_iff_eq];constructor
 ·rintro⟨g,h1,l,h2,h,⟨h3,h4⟩,rfl⟩
  exact⟨g,l,h,h1,h2,h3,h4,rfl⟩
 ·rintro⟨g,l,h,h1,h2,h3,h4,rfl⟩
  exact⟨g,h1,l,h2,h,⟨h3,h4⟩,rfl⟩
def Q1y(X:List DLI)(k:Nat):List Int:=(X.getD k (true,[])).2
def pick(S:List (Nat×Int))(k:Nat):List Int:=(S.filter fun e=>e.1==k).map Prod.snd
theorem Q6s(S S':List (Nat×Int))(k:Nat):pick (S++S') k=pick S k++pick S' k:=by
 simp[pick]
theorem Q4f(S:List (Nat×Int))(k:Nat):(pick S k).length ≤S.length:=by
 rw[pick,Kh];exact K1q _ _
theorem Q3v{S:List (Nat×Int)}{k:Nat}{z:Int}:z∈pick S k↔(k,z)∈S:=by
 simp only[pick,Kx,K1e,beq_iff_eq];constructor
 ·rintro⟨⟨a,b⟩,⟨h1,h2⟩,h3⟩
  simp only at h2 h3;subst h2 h3;exact h1
 ·intro h;exact⟨(k,z),⟨h,rfl⟩,rfl⟩
structure Did (X X':List DLI) (S:List (Nat×Int)):Prop where
 len:X'.length=X.length
 row:∀k:Nat,k<X.length→Q1y X' k=Q1y X k++pick S k
def Bnd(X:List DLI)(n:Nat):Prop:=∀k:Nat,k<X.length→(Q1y X k).length ≤n
theorem Did.refl(X:List DLI):Did X X []:=⟨rfl,fun k _=>by simp[pick]⟩
theorem Did.trans{X X' X'':List DLI}{S S':List (Nat×Int)}(h:Did X X' S)(h':Did X' X'' S'):Did X X'' (S++S'):=by
 refine⟨by rw[h'.len,h.len],fun k hk=> ?_⟩;rw[h'.row k (by rw[h.len];exact hk),h.row k hk,Q6s,Kj]
theorem Did.bnd{X X':List DLI}{S:List (Nat×Int)}(h:Did X X' S){n:Nat}(hb:Bnd X n):Bnd X' (n+S.length):=by
 intro k hk;rw[h.len]at hk;rw[h.row k hk,Kf];have:=hb k hk;have:=Q4f S k;omega
theorem Did.put{X:List DLI}{k:Nat}(hk:k<X.length)(b:Bool)(z:Int):Did X (X.set k (b,Q1y X k++[z])) [(k,z)]:=by
 refine⟨Km,fun j hj=> ?_⟩
 by_cases e:k=j
 ·subst e;simp[Q1y,K1,hk,pick]
 ·have e':(k==j)=false:=by rw[beq_eq_false_iff_ne];exact e
  simp[Q1y,K1,List.getElem?_set_ne e,pick,e']
theorem Q6t{α:Type}(l:List α)(S:α→List (Nat×Int))(k:Nat):pick (l.flatMap S) k=l.flatMap fun a=>pick (S a) k:=by
 induction l with
 |nil=>rfl
 |cons a l ih=>rw[K18,K18,Q6s,ih]
theorem flatMap_nil{α β:Type}(l:List α)(P:α→List β)(h:∀a∈l,P a=[]):l.flatMap P=[]:=by
 induction l with
 |nil=>rfl
 |cons a l ih=>rw[K18,h a Kk,ih fun b hb=>h b (K9 _ hb)];rfl
theorem Q5m{β:Type}(P:Nat→List β)(c:Nat)(h:∀a,a≠c→P a=[])(d:Nat):∀i:Nat,(List.range' i d).flatMap P=if i≤c∧c<i+d then P c else[]:=by
 induction d with
 |zero=>intro i;rw[if_neg (by omega)];rfl
 |succ d ih=>
  intro i;rw[K1a,K18,ih (i+1)]
  by_cases e:i=c
  ·subst e;rw[if_neg (by omega),if_pos (by omega),K1l]
  ·rw[h i e,Kt]
   by_cases e2:i+1≤c∧c<i+1+d
   ·rw[if_pos e2,if_pos (by omega)]
   ·rw[if_neg e2,if_neg (by omega)]
theorem Q8z{a b:List Int}(ha:Qu a)(hb:Qu b)(h:∀x∈a,∀y∈b,x<y):Qu (a++b):=List.pairwise_append.2 ⟨ha,hb,h⟩
theorem Q90(l:List Int)(hl:Qu l)(P:Int→List Int)(m:Int)(h1:∀x∈l,Qu (P x))(h2:∀x∈l,∀y∈P x,x*m≤y∧y<(x+1)*m)(hm:0<m):Qu (l.flatMap P):=by
 induction l with
 |nil=>exact List.Pairwise.nil
 |cons x l ih=>
  rw[K18];refine Q8z (h1 x Kk) (ih (List.Pairwise.of_cons hl) (fun y hy=>h1 y (K9 _ hy)) (fun y hy=>h2 y (K9 _ hy))) (fun a ha b hb=> ?_);obtain⟨y,hy,hb⟩:=List.mem_flatMap.1 hb;have hxy:=List.rel_of_pairwise_cons hl hy;have a1:=h2 x Kk a ha;have b1:=h2 y (K9 _ hy) b hb;have:(x+1)*m≤y*m:=Int.mul_le_mul_of_nonneg_right (by omega) (by omega);omega
theorem Q6x{a b:List Int}(hb:Qu b)(h:∀x,x∈a↔x∈b):Qr a=b:=Q40 _ _ (Qk a) hb fun x=>by rw[Qm,h x]
theorem Q73{p:DProgram}{v:List Int}(h:Sees p v)(c:Int):∀x∈Q1f p v c,0≤x∧x<Q2w v:=by
 intro x hx;rw[Q1f,Qm]at hx;exact Q8d v (fun y hy=>(h.inn y hy).1) _ (fun y hy=>by rw[h.len];exact Q30 h.ok _ (h.inClass c) y hy) x hx
noncomputable def ltC(q:DQuestion)(v:DSight)(c:Int):Int:=(F79 q v c).getD 0
theorem Q8t{q:DQuestion}(h:Asks q){v:DSight}(hv:Sees q.1 v.2)(hf:FitQ q v.2)(c:Int)(hc:c∈v.2):
  F79 q v c=some (ltC q v c)∧F6l q v c=some (ltC q v c)∧0≤ltC q v c∧ltC q v c≤7:=by
 obtain⟨r,e1,e2,e3,e4,_⟩:=Q26 h hv hf c hc v.1 v.1;have e1':F79 q v c=some r:=e1
 have:ltC q v c=r:=by rw[ltC,e1'];rfl
 rw[this];exact⟨e1',e2,e3,e4⟩
theorem Qew(q:DQuestion)(v:DSight)(a:DAuto)(many c L:Int)(after:DLI)(e:DEdge)(t47:Bool×List DEdge)(t48 t49:Int)(idx:Nat)(hidx:i64.wrap (i64.wrap (c*a.1)+e.1)=(idx:Int))
  (val:Int→Int)(hval:∀to∈after.2,i64.wrap (i64.wrap (to*a.1)+e.2.2)=val to)(hal:after.2.length≤1000)(d:Nat):∀(i:Nat) (X:List DLI) (n:Nat),i+d=after.2.length→idx<X.length→Bnd X n→n+d≤1000000000→
  ∃X',Fa1 q v a many (false,X) c L after e t47 t48 t49 after (after.2.length:Int) (i:Int)=some (false,X')∧Did X X' ((after.2.drop i).map fun to=>(idx,val to)):=by
 have hlim:=J4
 induction d with
 |zero=>
  intro i X n hi hX hB hn;refine⟨X,by rw[Fa1E,gFo],?_⟩;rw[K8 (by omega)];exact Did.refl X
 |succ d ih=>
  intro i X n hi hX hB hn
  have hlt:i<after.2.length:=by omega
  have hb:(X.getD idx (true,[])).2.length ≤n:=hB idx hX;have hput:=Did.put hX ((X.getD idx (true,[])).1 &&false) (val after.2[i]);obtain⟨X',g1,g2⟩:=ih (i+1) (X.set idx ((X.getD idx (true,[])).1 &&false,Q1y X idx++[val after.2[i]])) (n+1) (by omega) (by rw[Km];exact hX) (hput.bnd hB) (by omega)
  have eg:after.2.getD i 0=after.2[i]:=by simp[K1,hlt]
  refine⟨X',?_,?_⟩
  ·rw[Fa1E];simp only[gT (show(i:Int)<(after.2.length:Int) by omega),gT (show(0:Int)≤(i:Int) by omega),eg,hidx,hval _ (K4 hlt),K3,gT (show(0:Int)≤(idx:Int) by omega),gT (show(idx:Int)<(X.length:Int) by omega),beq_self_eq_true,cond_true,up1o i,J1];rw[gT (by simp only[Kq,K1m];omega)];exact g1
  ·rw[K2 hlt,K12];exact hput.trans g2
def Q5y(c:Nat)(L:Int)(m:Nat)(after:List Int)(e:DEdge):List (Nat×Int):=if e.2.1=L then after.map fun to=>(c*m+e.1.toNat,to*m+e.2.2)else[]
theorem Qf0{c g m n:Nat}(hc:c<n)(hg:g<m):c*m+g<n*m:=by
 have:(c+1)*m≤n*m:=Kr _ hc;rw[K1b]at this;omega
theorem Q69{c g m n:Nat}(hc:c<n)(hg:g<m)(hn:n≤40)(hm:m≤40):i64.wrap (i64.wrap ((c:Int)*(m:Int))+(g:Int))=((c*m+g:Nat):Int):=by
 have h1:c*m≤40*40:=Nat.mul_le_mul (by omega) hm;have e:(c:Int)*(m:Int)=((c*m:Nat):Int):=(Int.natCast_mul c m).symm;rw[e,wr (n:=((c*m:Nat):Int)) (by omega),wr (by omega)];omega
theorem Q97{to:Int}{g m n:Nat}(h0:0≤to∧to<(n:Int))(hg:g<m)(hn:n≤40)(hm:m≤40):i64.wrap (i64.wrap (to*(m:Int))+(g:Int))=to*m+g:=by
 obtain⟨t,rfl⟩:=Kc h0.1;rw[Q69 (c:=t) (g:=g) (m:=m) (n:=n) (by omega) hg hn hm];push_cast;rfl
theorem Q3l(c:Nat)(L:Int)(m:Nat)(after:List Int)(e:DEdge):(Q5y c L m after e).length ≤after.length:=by
 unfold Q5y;split
 ·rw[Kh];exact Kz _
 ·simp
theorem Qev(q:DQuestion)(v:DSight)(a:DAuto)(m n:Nat)(ha:a.1=(m:Int))(hm:m≤40)(hn:n≤40)(many:Int)(c:Nat)(hc:c<n)(L:Int)(after:DLI)(hal:after.2.length≤40)(hin:∀to∈after.2,0≤to∧to<(n:Int))
  (E:Bool×List DEdge)(hE:∀e∈E.2,∃g l h:Nat,g<m∧h<m∧e=((g:Int),((l:Int),(h:Int))))(hEl:E.2.length≤10000)(d:Nat):∀(i:Nat) (X:List DLI) (b:Nat),i+d=E.2.length→X.length=n*m→Bnd X b→b+40*d≤900000000→
  ∃X',F7h q v a many (false,X) (c:Int) L after E (E.2.length:Int) (i:Int)=some (false,X')∧Did X X' ((E.2.drop i).flatMap (Q5y c L m after.2)):=by
 induction d with
 |zero=>
  intro i X b hi hX hB hb;refine⟨X,by rw[F7hE,gFo],?_⟩;rw[K8 (by omega)];exact Did.refl X
 |succ d ih=>
  intro i X b hi hX hB hb
  have hlt:i<E.2.length:=by omega
  obtain⟨g,l,h,hg,hh,he⟩:=hE _ (K4 hlt);rw[F7hE,gTo,gTo,gTo,J2 E.2 _ i hlt,up1o i,K2 hlt,K18]
  by_cases e:E.2[i].2.1 =L
  ·have hS:Q5y c L m after.2 E.2[i]=after.2.map fun to=>(c*m+g,to*m+(h:Int)):=by
    unfold Q5y;rw[if_pos e,he];rfl
   obtain⟨X1,g1,g2⟩:=Qew q v a many (c:Int) L after E.2[i] E (E.2.length:Int) (i:Int) (c*m+g) (by rw[ha,he];exact Q69 hc hg hn hm) (fun to=>to*m+(h:Int)) (fun to hto=>by rw[ha,he];exact Q97 (hin to hto) hh hn hm) (by omega) after.2.length 0 X b (by omega) (by rw[hX];exact Qf0 hc hg) hB (by omega);rw[Kg,←hS]at g2;have hlen:=Q3l c L m after.2 E.2[i];obtain⟨X',g3,g4⟩:=ih (i+1) X1 (b+(Q5y c L m after.2 E.2[i]).length) (by omega) (by rw[g2.len];exact hX) (g2.bnd hB) (by omega);refine⟨X',?_,g2.trans g4⟩;have g1':Fa1 q v a many (false,X) (c:Int) L after E.2[i] E (E.2.length:Int) (i:Int) after (after.2.length:Int) 0=_:=g1;rw[bT (by rw[beq_iff_eq];exact e)];simp only[g1',J0,J1,g3]
  ·have hS:Q5y c L m after.2 E.2[i]=[]:=if_neg e;obtain⟨X',g3,g4⟩:=ih (i+1) X b (by omega) hX hB (by omega);refine⟨X',?_,?_⟩
   ·rw[bF (beqF e),J1,g3]
   ·rw[hS,Kt];exact g4
noncomputable def Q4g(q:DQuestion)(v:DSight)(c:Nat):List (Nat×Int):=(Q1r q.2.2).flatMap (Q5y c (ltC q v (c:Int)) (Q0 q.2.2.2) (Q1f q.1 v.2 (c:Int)))
theorem Qeu{q:DQuestion}(h:Asks q){v:DSight}(hv:Sees q.1 v.2)(hg:Q6 q.1 v.2=true)(hf:FitQ q v.2)(n:Nat)(hn:Q2w v.2=n)(cf ce:Bool)(G:DRI)(d:Nat):∀(c:Nat) (X:List DLI) (b:Nat),c+d=n→X.length=n*Q0 q.2.2.2→Bnd X b→b+400000*d≤800000000→
  ∃X',Fbf q v ((Q0 q.2.2.2:Int),(cf,Q31 q.2.2.2),(ce,Q1r q.2.2),G) (n:Int) (false,X) (c:Int)=some (false,X')∧Did X X' ((List.range' c d).flatMap (Q4g q v)):=by
 have hmc:=Q3t v.2 hv.inn;have hm:=Qt h.tr;have hel:=Q5l q.2.2 h.tr
 induction d with
 |zero=>
  intro c X b hc hX hB hb;exact⟨X,by rw[FbfE,gFo],Did.refl X⟩
 |succ d ih=>
  intro c X b hc hX hB hb;obtain⟨l1,l2,l3,l4⟩:=Q8t h hv hf (c:Int) (Q4x hg (c:Int) (by omega));obtain⟨sb,e1⟩:=Qip hv v.1 (c:Int);have e1':F7v q.1 v (c:Int)=some (sb,Q1f q.1 v.2 (c:Int)):=e1;have hsl:=Q2c hv (c:Int);have hsi:=Q73 hv (c:Int)
  obtain⟨X1,g1,g2⟩:=Qev q v ((Q0 q.2.2.2:Int),(cf,Q31 q.2.2.2),(ce,Q1r q.2.2),G) (Q0 q.2.2.2) n rfl (by omega) (by omega) (n:Int) c (by omega) (ltC q v (c:Int)) (sb,Q1f q.1 v.2 (c:Int)) hsl (fun to hto=>by rw[←hn];exact hsi to hto)
   (ce,Q1r q.2.2) (fun e he=>by obtain⟨g,l,h,a1,_,a3,_,a5⟩:=Q5e.1 he;exact⟨g,l,h,a1,a3,a5⟩) (by simp only;omega) (Q1r q.2.2).length 0 X b (by simp) hX hB (by omega)
  rw[Kg]at g2
  have hSl:(Q4g q v c).length ≤400000:=by
   have:=Q16 (Q1r q.2.2) (Q5y c (ltC q v (c:Int)) (Q0 q.2.2.2) (Q1f q.1 v.2 (c:Int))) 40 (fun e _=>by have:=Q3l c (ltC q v (c:Int)) (Q0 q.2.2.2) (Q1f q.1 v.2 (c:Int)) e;omega);rw[Q4g];omega
  have g2':Did X X1 (Q4g q v c):=g2;obtain⟨X',g3,g4⟩:=ih (c+1) X1 (b+(Q4g q v c).length) (by omega) (by rw[g2'.len];exact hX) (g2'.bnd hB) (by omega);refine⟨X',?_,?_⟩
  ·have g1':F7h q v ((Q0 q.2.2.2:Int),(cf,Q31 q.2.2.2),(ce,Q1r q.2.2),G) (n:Int) (false,X) (c:Int) (ltC q v (c:Int)) (sb,Q1f q.1 v.2 (c:Int)) (ce,Q1r q.2.2) ((Q1r q.2.2).length :Int) 0=_:=g1;rw[FbfE,gTo,l1,J0,e1',J0];simp only[g1',J0,up1o c,J1,g3]
  ·rw[K1a,K18];exact g2'.trans g4
theorem Qdg{q:DQuestion}(h:Asks q)(v:DSight)(all_:Int)(goals:DRI)(n c:Nat)(hn:n≤40)(hc:c<n)(L to:Int)(hto:0≤to∧to<(n:Int))(t31 t32:Int)(t43:DLI)(t44 t45:Int)(d:Nat):∀(j:Nat) (X:List DLI) (b:Nat),j+d=Q0 q.2.2.2→X.length=n*Q0 q.2.2.2→Bnd X b→b+d≤1000000000→
  ∃X',Fab q v all_ (Q0 q.2.2.2:Int) (false,X) goals (c:Int) L to t31 t32 t43 t44 t45 (Q0 q.2.2.2:Int) (j:Int)=some (false,X')∧Did X X' ((List.range' j d).map fun j:Nat=>(c*Q0 q.2.2.2+gssF q.2.2 L (j:Int),to*(Q0 q.2.2.2:Int)+(j:Int))):=by
 have hlim:=J4;have hm:=Qt h.tr
 induction d with
 |zero=>
  intro j X b hj hX hB hb;exact⟨X,by rw[FabE,gFo],Did.refl X⟩
 |succ d ih=>
  intro j X b hj hX hB hb;obtain⟨e1,_,e3⟩:=Q3s q.2.2 h.tr L (j:Int) false;have hidx:=Q69 (m:=Q0 q.2.2.2) hc e3 hn (by omega);have hval:=Q97 (m:=Q0 q.2.2.2) (g:=j) hto (by omega) hn (by omega)
  have hk:c*Q0 q.2.2.2+gssF q.2.2 L (j:Int)<X.length:=by rw[hX];exact Qf0 hc e3
  have hb1:(X.getD (c*Q0 q.2.2.2+gssF q.2.2 L (j:Int)) (true,[])).2.length ≤b:=hB _ hk;have hput:=Did.put hk ((X.getD (c*Q0 q.2.2.2+gssF q.2.2 L (j:Int)) (true,[])).1 &&false) (to*(Q0 q.2.2.2:Int)+(j:Int));obtain⟨X',g1,g2⟩:=ih (j+1) _ (b+1) (by omega) (by rw[hput.len];exact hX) (hput.bnd hB) (by omega);refine⟨X',?_,?_⟩
  ·rw[FabE];simp only[gT (show(j:Int)<(Q0 q.2.2.2:Int) by omega),e1,J0,hidx,hval,K3,gT (show(0:Int)≤((c*Q0 q.2.2.2+gssF q.2.2 L (j:Int):Nat):Int) by omega),gT (show((c*Q0 q.2.2.2+gssF q.2.2 L (j:Int):Nat):Int)<(X.length:Int) by omega),beq_self_eq_true,cond_true,up1o j,J1];rw[gT (by simp only[Kq,K1m];omega)];exact g1
  ·rw[K1a,K12];exact hput.trans g2
noncomputable def toS(q:DQuestion)(L:Int)(c:Nat)(to:Int):List (Nat×Int):=(List.range (Q0 q.2.2.2)).map fun j:Nat=>(c*Q0 q.2.2.2+gssF q.2.2 L (j:Int),to*(Q0 q.2.2.2:Int)+(j:Int))
noncomputable def Q3i(q:DQuestion)(v:DSight)(c:Nat):List (Nat×Int):=(Q1f q.1 v.2 (c:Int)).flatMap (toS q (ltC q v (c:Int)) c)
theorem Q5g(q:DQuestion)(L:Int)(c:Nat)(to:Int):(toS q L c to).length =Q0 q.2.2.2:=by simp[toS]
theorem Qdf{q:DQuestion}(h:Asks q)(v:DSight)(all_:Int)(goals:DRI)(n c:Nat)(hn:n≤40)(hc:c<n)(L:Int)(t31 t32:Int)(after:DLI)(hal:after.2.length≤40)(hin:∀to∈after.2,0≤to∧to<(n:Int))(d:Nat):∀(i:Nat) (X:List DLI) (b:Nat),i+d=after.2.length→X.length=n*Q0 q.2.2.2→Bnd X b→b+40*d≤900000000→
  ∃X',F9n q v all_ (Q0 q.2.2.2:Int) (false,X) goals (c:Int) L t31 t32 after (after.2.length:Int) (i:Int)=some (false,X')∧Did X X' ((after.2.drop i).flatMap (toS q L c)):=by
 have hm:=Qt h.tr
 induction d with
 |zero=>
  intro i X b hi hX hB hb;refine⟨X,by rw[F9nE,gFo],?_⟩;rw[K8 (by omega)];exact Did.refl X
 |succ d ih=>
  intro i X b hi hX hB hb
  have hlt:i<after.2.length:=by omega
  obtain⟨X1,g1,g2⟩:=Qdg h v all_ goals n c hn hc L (after.2[i]) (hin _ (K4 hlt)) t31 t32 after (after.2.length:Int) (i:Int) (Q0 q.2.2.2) 0 X b (by omega) hX hB (by omega)
  have g2':Did X X1 (toS q L c after.2[i]):=by rw[toS,K1g];exact g2
  have hl:=Q5g q L c after.2[i];obtain⟨X',g3,g4⟩:=ih (i+1) X1 (b+(toS q L c after.2[i]).length) (by omega) (by rw[g2'.len];exact hX) (g2'.bnd hB) (by omega);refine⟨X',?_,?_⟩
  ·have g1':Fab q v all_ (Q0 q.2.2.2:Int) (false,X) goals (c:Int) L (after.2[i]) t31 t32 after (after.2.length:Int) (i:Int) (Q0 q.2.2.2:Int) 0=_:=g1;rw[F9nE,gTo,gTo,gTo,J2 after.2 _ i hlt,up1o i];simp only[g1',J0,J1,g3]
  ·rw[K2 hlt,K18];exact g2'.trans g4
theorem Qde{q:DQuestion}(h:Asks q){v:DSight}(hv:Sees q.1 v.2)(hg:Q6 q.1 v.2=true)(hf:FitQ q v.2)(n:Nat)(hn:Q2w v.2=n)(goals:DRI)(d:Nat):∀(c:Nat) (X:List DLI) (b:Nat),c+d=n→X.length=n*Q0 q.2.2.2→Bnd X b→b+2000*d≤800000000→
  ∃X',Fas q v (n:Int) (Q0 q.2.2.2:Int) (false,X) goals (n:Int) (c:Int)=some (false,X')∧Did X X' ((List.range' c d).flatMap (Q3i q v)):=by
 have hmc:=Q3t v.2 hv.inn;have hm:=Qt h.tr
 induction d with
 |zero=>
  intro c X b hc hX hB hb;exact⟨X,by rw[FasE,gFo],Did.refl X⟩
 |succ d ih=>
  intro c X b hc hX hB hb;obtain⟨l1,l2,l3,l4⟩:=Q8t h hv hf (c:Int) (Q4x hg (c:Int) (by omega));have e1:=Qdj hv v.1 (c:Int);have e1':F4a q.1 v (c:Int)=some (false,Q1f q.1 v.2 (c:Int)):=e1;have hsl:=Q2c hv (c:Int);have hsi:=Q73 hv (c:Int);obtain⟨X1,g1,g2⟩:=Qdf h v (n:Int) goals n c (by omega) (by omega) (ltC q v (c:Int)) (n:Int) (c:Int) (false,Q1f q.1 v.2 (c:Int)) hsl (fun to hto=>by rw[←hn];exact hsi to hto) (Q1f q.1 v.2 (c:Int)).length 0 X b (by simp) hX hB (by omega);rw[Kg]at g2;have g2':Did X X1 (Q3i q v c):=g2
  have hSl:(Q3i q v c).length ≤2000:=by
   have:=Q16 (Q1f q.1 v.2 (c:Int)) (toS q (ltC q v (c:Int)) c) 32 (fun to _=>by rw[Q5g];omega);rw[Q3i];omega
  obtain⟨X',g3,g4⟩:=ih (c+1) X1 (b+(Q3i q v c).length) (by omega) (by rw[g2'.len];exact hX) (g2'.bnd hB) (by omega);refine⟨X',?_,?_⟩
  ·have g1':F9n q v (n:Int) (Q0 q.2.2.2:Int) (false,X) goals (c:Int) (ltC q v (c:Int)) (n:Int) (c:Int) (false,Q1f q.1 v.2 (c:Int)) ((Q1f q.1 v.2 (c:Int)).length :Int) 0=_:=g1;rw[FasE,gTo,l2,J0,e1',J0];simp only[g1',J0,up1o c,J1,g3]
  ·rw[K1a,K18];exact g2'.trans g4
def Q12(A B:List Int)(m:Int):List Int:=A.flatMap fun i=>B.map fun x=>i*m+x
theorem Qhf{to x:Int}{m n:Nat}(h0:0≤to∧to<(n:Int))(hx:0≤x∧x<(m:Int))(hn:n≤40)(hm:m≤40):i64.wrap (i64.wrap (to*(m:Int))+x)=to*m+x:=by
 obtain⟨g,rfl⟩:=Kc hx.1;exact Q97 h0 (by omega) hn hm
theorem Qcy{to:Int}{m n:Nat}(h0:0≤to∧to<(n:Int))(hn:n≤40)(hm:m≤40):0≤to*(m:Int)∧to*(m:Int)≤1600:=by
 obtain⟨t,rfl⟩:=Kc h0.1;have h1:t*m≤40*40:=Nat.mul_le_mul (by omega) hm;have e:(t:Int)*(m:Int)=((t*m:Nat):Int):=(Int.natCast_mul t m).symm;rw[e];omega
theorem Qbj(B:DLI)(m n:Nat)(hm:m≤40)(hn:n≤40)(hBl:B.2.length≤1000)(hB:∀x∈B.2,0≤x∧x<(m:Int))(i:Int)(hi:0≤i∧i<(n:Int))(t12:DLI)(t13 t14:Int)(d:Nat):∀(j:Nat) (b:Bool) (o:List Int),j+d=B.2.length→o.length+d≤100000→
  ∃c,Fa4 B (m:Int) (b,o) i t12 t13 t14 B (B.2.length:Int) (j:Int)=some (c,o++(B.2.drop j).map fun x=>i*(m:Int)+x):=by
 have hlim:=J4
 induction d with
 |zero=>
  intro j b o hj ho;exact⟨b,by rw[Fa4E,gFo,K8 (by omega)];simp⟩
 |succ d ih=>
  intro j b o hj ho
  have hlt:j<B.2.length:=by omega
  obtain⟨c,g⟩:=ih (j+1) (b&&false) (o++[i*(m:Int)+B.2[j]]) (by omega) (by simp;omega);refine⟨c,?_⟩;rw[Fa4E,gTo,gTo,gTo,J2 B.2 _ j hlt,Qhf hi (hB _ (K4 hlt)) hn hm,gT (by simp only[Kq,K1m];omega),up1o j,J1,g,K2 hlt,K12,Kj,K25]
theorem Qbi(B:DLI)(m n:Nat)(hm:m≤40)(hn:n≤40)(hBl:B.2.length≤40)(hB:∀x∈B.2,0≤x∧x<(m:Int))(A:DLI)(hAl:A.2.length≤1000)(hA:∀x∈A.2,0≤x∧x<(n:Int))(d:Nat):∀(j:Nat) (b:Bool) (o:List Int),j+d=A.2.length→o.length+40*d≤50000→
  ∃c,Fb4 B (m:Int) (b,o) A (A.2.length:Int) (j:Int)=some (c,o++Q12 (A.2.drop j) B.2 (m:Int)):=by
 induction d with
 |zero=>
  intro j b o hj ho;exact⟨b,by rw[Fb4E,gFo,K8 (by omega)];simp[Q12]⟩
 |succ d ih=>
  intro j b o hj ho
  have hlt:j<A.2.length:=by omega
  obtain⟨c1,e1⟩:=Qbj B m n hm hn (by omega) hB (A.2[j]) (hA _ (K4 hlt)) A (A.2.length:Int) (j:Int) B.2.length 0 b o (by omega) (by omega);rw[Kg]at e1;obtain⟨c,g⟩:=ih (j+1) c1 (o++B.2.map fun x=>A.2[j]*(m:Int)+x) (by omega) (by simp;omega);refine⟨c,?_⟩;have e1':Fa4 B (m:Int) (b,o) (A.2[j]) A (A.2.length:Int) (j:Int) B (B.2.length:Int) 0=_:=e1;rw[Fb4E,gTo,gTo,gTo,J2 A.2 _ j hlt,up1o j];simp only[e1',J0,J1,g];rw[K2 hlt,Q12,Q12,K18,Kj]
theorem Qcm(B:DLI)(m n:Nat)(hm:m≤40)(hn:n≤40)(hBl:B.2.length≤40)(hB:∀x∈B.2,0≤x∧x<(m:Int))(A:DLI)(hAl:A.2.length≤1000)(hA:∀x∈A.2,0≤x∧x<(n:Int)):∃c,F1c A B (m:Int)=some (c,Q12 A.2 B.2 (m:Int)):=by
 obtain⟨c,e⟩:=Qbi B m n hm hn hBl hB A hAl hA A.2.length 0 true [] (by omega) (by simp;omega);have e':Fb4 B (m:Int) (true,[]) A (A.2.length:Int) 0=_:=e;exact⟨c,by rw[F1cE,e',J0,Kg,Kt]⟩
theorem Qlu(n:Nat)(hn:n≤1000):∃c,F4j (n:Int)=some (c,(List.range n).map Int.ofNat):=by
 have hlim:=J4
 obtain⟨c,e⟩:=Q53 n (fun _=>true) (fun o j=>Fba (n:Int) o j) (fun j b o hj ho=>by
  rw[FbaE,gTo,gT (by simp only[Kq,K1m];omega),up1o j,J1,cond_true]) (fun b o=>by
  rw[FbaE,gFo]) true
 have e':Fba (n:Int) (true,[]) 0=_:=e;refine⟨c,?_⟩;rw[F4jE,e',J0,upTo,List.filter_eq_self.2 (fun _ _=>rfl)]
theorem Qiw(B:DLI)(hBl:B.2.length≤1000)(y:Int)(hy:0≤y∧y≤1600)(hB:∀x∈B.2,0≤x∧x<1000)(d:Nat):∀(j:Nat) (b:Bool) (o:List Int),j+d=B.2.length→o.length≤j→
  ∃c,Fbs y (b,o) B (B.2.length:Int) (j:Int)=some (c,o++(B.2.drop j).map fun x=>y+x):=by
 have hlim:=J4
 induction d with
 |zero=>
  intro j b o hj ho;exact⟨b,by rw[FbsE,gFo,K8 (by omega)];simp⟩
 |succ d ih=>
  intro j b o hj ho
  have hlt:j<B.2.length:=by omega
  have hx:=hB _ (K4 hlt);obtain⟨c,g⟩:=ih (j+1) (b&&false) (o++[y+B.2[j]]) (by omega) (by simp;omega);refine⟨c,?_⟩;rw[FbsE,gTo,gTo,gTo,J2 B.2 _ j hlt,wr (by omega),gT (by simp only[Kq,K1m];omega),up1o j,J1,Int.add_comm _ y,g,K2 hlt,K12,Kj,K25]
theorem Qjz(B:DLI)(hBl:B.2.length≤1000)(y:Int)(hy:0≤y∧y≤1600)(hB:∀x∈B.2,0≤x∧x<1000):∃c,F3g B y=some (c,B.2.map fun x=>y+x):=by
 obtain⟨c,e⟩:=Qiw B hBl y hy hB B.2.length 0 false [] (by omega) (by simp);have e':Fbs y (false,[]) B (B.2.length:Int) 0=_:=e;exact⟨c,by rw[F3gE,e',J0,Kg,Kt]⟩
theorem Qd5(f:List DSaid):∀x∈Q31 f,0≤x∧x<(Q0 f:Int):=fun x hx=>(Qcx.1 hx).1
theorem Qdd{q:DQuestion}(h:Asks q)(n:Nat)(hn:n≤40)(A:DLI)(hAl:A.2.length≤1000)(hA:∀x∈A.2,0≤x∧x<(n:Int))(d:Nat):∀(j:Nat) (b:Bool) (o:List Int),j+d=A.2.length→o.length+40*d≤50000→
  ∃c,(b=false→c=false)∧Fcm q (b,o) A (A.2.length:Int) (j:Int)=some (c,o++Q12 (A.2.drop j) (Q31 q.2.2.2) (Q0 q.2.2.2:Int)):=by
 have hlim:=J4;have hm:=Qt h.tr;have hfl:(Q31 q.2.2.2).length ≤Q0 q.2.2.2:=Q4j _ _;obtain⟨rc,re⟩:=Qm4 q.2.2 h.tr
 induction d with
 |zero=>
  intro j b o hj ho;exact⟨b,fun h=>h,by rw[FcmE,gFo,K8 (by omega)];simp[Q12]⟩
 |succ d ih=>
  intro j b o hj ho
  have hlt:j<A.2.length:=by omega
  have hy:=Qcy (m:=Q0 q.2.2.2) (hA _ (K4 hlt)) hn (by omega);obtain⟨c1,e1⟩:=Qjz (rc,Q31 q.2.2.2) (by simp only;omega) (A.2[j]*(Q0 q.2.2.2:Int)) hy (fun x hx=>by have:=Qd5 _ x hx;omega);obtain⟨c,hc,g⟩:=ih (j+1) (b&&((Q31 q.2.2.2).map fun x=>A.2[j]*(Q0 q.2.2.2:Int)+x).isEmpty) (o++(Q31 q.2.2.2).map fun x=>A.2[j]*(Q0 q.2.2.2:Int)+x) (by omega) (by simp;omega);refine⟨c,fun hb=>hc (by rw[hb];rfl),?_⟩;rw[FcmE,gTo,gTo,gTo,J2 A.2 _ j hlt,re,J0,Q6k q.2.2 h.tr,J0,wr (n:=A.2[j]*(Q0 q.2.2.2:Int)) (by omega),up1o j];simp only[e1,J0,J1];rw[gT (by simp only[Kh];omega),g,K2 hlt,Q12,Q12,K18,Kj]
theorem Q87{q:DQuestion}(h:Asks q)(n:Nat)(hn:n≤40)(A:DLI)(hAl:A.2.length≤1000)(hA:∀x∈A.2,0≤x∧x<(n:Int)):F3j q A=some (false,Q12 A.2 (Q31 q.2.2.2) (Q0 q.2.2.2:Int)):=by
 obtain⟨c,hc,e⟩:=Qdd h n hn A hAl hA A.2.length 0 false [] (by omega) (by simp;omega);have e':Fcm q (false,[]) A (A.2.length:Int) 0=_:=e;rw[F3jE,e',J0,Kg,Kt,hc rfl]
theorem Q4u(f:List DSaid):∀g∈Q44 f,g.length≤Q0 f∧∀x∈g,0≤x∧x<(Q0 f:Int):=by
 intro g hg;obtain⟨i,_,h⟩:=List.mem_flatMap.1 hg;unfold Q5p at h;split at h
 ·rw[Kn]at h;subst h;exact⟨Q4j _ _,fun x hx=>(Qcx.1 hx).1⟩
 ·cases h
theorem Qey(q:DQuestion)(v:DSight)(a:DAuto)(n:Nat)(hn:n≤40)(hg:Q10 q.2.2.2=true)(ha:a.1=(Q0 q.2.2.2:Int))(next:DRI)(c2:Bool)(X:List DLI)(hXl:X.length≤1000)(hX:∀x∈X,x.2∈Q44 q.2.2.2)(d:Nat):∀(j:Nat) (b:Bool) (o:List DLI),j+d=X.length→o.length≤j→
  ∃c Y,F8z q v a (n:Int) next (b,o) (c2,X) (X.length:Int) (j:Int)=some (c,o++Y)∧Y.map Prod.snd=(X.drop j).map fun g=>Q12 ((List.range n).map Int.ofNat) g.2 (Q0 q.2.2.2:Int):=by
 have hlim:=J4;have hm:=Qt hg
 induction d with
 |zero=>
  intro j b o hj ho;exact⟨b,[],by rw[F8zE,gFo];simp,by rw[K8 (by omega)];rfl⟩
 |succ d ih=>
  intro j b o hj ho
  have hlt:j<X.length:=by omega
  obtain⟨g1,g2⟩:=Q4u _ _ (hX _ (K4 hlt));obtain⟨c3,e3⟩:=Qlu n (by omega)
  obtain⟨c4,e4⟩:=Qcm X[j] (Q0 q.2.2.2) n (by omega) hn (by omega) g2 (c3,(List.range n).map Int.ofNat) (by simp;omega) (fun x hx=>by
   obtain⟨y,hy,rfl⟩:=Kx.1 hx;have:=K1x.1 hy
   exact⟨Int.natCast_nonneg _,by simp;omega⟩)
  obtain⟨c,Y,h1,h2⟩:=ih (j+1) (b&&false) (o++[(c4,Q12 ((List.range n).map Int.ofNat) X[j].2 (Q0 q.2.2.2:Int))]) (by omega) (by simp;omega);refine⟨c,(c4,Q12 ((List.range n).map Int.ofNat) X[j].2 (Q0 q.2.2.2:Int))::Y,?_,?_⟩
  ·rw[F8zE,gTo,gTo,gTs,J2 X _ j hlt,e3,J0,ha,up1o j];simp only[e4,J0,J1];rw[gT (by simp only[Kq,K1m];omega),h1];simp
  ·rw[K12,h2,K2 hlt,K12]
theorem Qdi(q:DQuestion)(v:DSight)(hg:Q10 q.2.2.2=true)(n:Nat)(hn:n≤40)(next goals:DRI)(goal:DLI)(hgl:goal.2.length≤Q0 q.2.2.2)(hgi:∀x∈goal.2,0≤x∧x<(Q0 q.2.2.2:Int))(t81:DRI)(t82 t83:Int)(d:Nat):∀(c:Nat) (b:Bool) (o:List Int),c+d=n→o.length+40*d≤50000→
  ∃b',(b=false→b'=false)∧Fa6 q v (n:Int) (Q0 q.2.2.2:Int) next goals goal (b,o) t81 t82 t83 (n:Int) (c:Int)=some (b',o++Q12 ((List.range' c d).map Int.ofNat) goal.2 (Q0 q.2.2.2:Int)):=by
 have hlim:=J4;have hm:=Qt hg
 induction d with
 |zero=>
  intro c b o hc ho;exact⟨b,fun h=>h,by rw[Fa6E,gFo];simp[Q12]⟩
 |succ d ih=>
  intro c b o hc ho;have hy:=Qcy (to:=(c:Int)) (m:=Q0 q.2.2.2) (n:=n) ⟨by omega,by omega⟩ hn (by omega);obtain⟨c1,e1⟩:=Qjz goal (by omega) ((c:Int)*(Q0 q.2.2.2:Int)) hy (fun x hx=>by have:=hgi x hx;omega);obtain⟨b',hb',g⟩:=ih (c+1) (b&&(goal.2.map fun x=>(c:Int)*(Q0 q.2.2.2:Int)+x).isEmpty) (o++goal.2.map fun x=>(c:Int)*(Q0 q.2.2.2:Int)+x) (by omega) (by simp;omega);refine⟨b',fun hb=>hb' (by rw[hb];rfl),?_⟩;rw[Fa6E,gTo,wr (n:=(c:Int)*(Q0 q.2.2.2:Int)) (by omega),e1,J0,up1o c];rw[gT (by simp only[Kh];omega),J1,g,K1a,K12,Q12,Q12,K18,Kj];rfl
theorem Qdh(q:DQuestion)(v:DSight)(hg:Q10 q.2.2.2=true)(n:Nat)(hn:n≤40)(next:DRI)(c2:Bool)(X:List DLI)(hXl:X.length≤1000)(hX:∀x∈X,x.2∈Q44 q.2.2.2)(d:Nat):∀(j:Nat) (b:Bool) (o:List DLI),j+d=X.length→o.length≤j→
  ∃c Y,Fbi q v (n:Int) (Q0 q.2.2.2:Int) next (b,o) (c2,X) (X.length:Int) (j:Int)=some (c,o++Y)∧(Y.map Prod.snd=(X.drop j).map fun g=>Q12 ((List.range n).map Int.ofNat) g.2 (Q0 q.2.2.2:Int))∧∀y∈Y,y.1=false:=by
 have hlim:=J4;have hm:=Qt hg
 induction d with
 |zero=>
  intro j b o hj ho;exact⟨b,[],by rw[FbiE,gFo];simp,by rw[K8 (by omega)];rfl,by simp⟩
 |succ d ih=>
  intro j b o hj ho
  have hlt:j<X.length:=by omega
  obtain⟨g1,g2⟩:=Q4u _ _ (hX _ (K4 hlt))
  obtain⟨c4,hc4,e4⟩:=Qdi q v hg n hn next (b,o) X[j] g1 g2 (c2,X) (X.length:Int) (j:Int) n 0 false [] (by omega) (by simp;omega)
  rw[←K1g,Kt]at e4;obtain⟨c,Y,h1,h2,h3⟩:=ih (j+1) (b&&false) (o++[(c4,Q12 ((List.range n).map Int.ofNat) X[j].2 (Q0 q.2.2.2:Int))]) (by omega) (by simp;omega);refine⟨c,(c4,Q12 ((List.range n).map Int.ofNat) X[j].2 (Q0 q.2.2.2:Int))::Y,?_,?_,fun y hy=> ?_⟩
  ·have e4':Fa6 q v (n:Int) (Q0 q.2.2.2:Int) next (b,o) X[j] (false,[]) (c2,X) (X.length:Int) (j:Int) (n:Int) 0=_:=e4
   rw[FbiE,gTo,gTo,gTs,J2 X _ j hlt,up1o j];simp only[e4',J0,J1];rw[gT (by simp only[Kq,K1m];omega),h1];simp
  ·rw[K12,h2,K2 hlt,K12]
  ·rcases Kd.1 hy with rfl|hy
   ·exact hc4 rfl
   ·exact h3 y hy
theorem Qac{A B:List Int}{n m:Nat}(hA:∀x∈A,0≤x∧x<(n:Int))(hB:∀y∈B,0≤y∧y<(m:Int)):∀z∈Q12 A B (m:Int),0≤z∧z<((n*m:Nat):Int):=by
 intro z hz;obtain⟨x,hx,hz⟩:=List.mem_flatMap.1 hz;obtain⟨y,hy,rfl⟩:=Kx.1 hz;have h1:=hA x hx;have h2:=hB y hy;have h3:x*(m:Int)≤((n:Int)-1)*(m:Int):=Int.mul_le_mul_of_nonneg_right (by omega) (by omega);have h4:0≤x*(m:Int):=Int.mul_nonneg h1.1 (by omega)
 have h5:((n:Int)-1)*(m:Int)=(n:Int)*(m:Int)-(m:Int):=by rw[Int.sub_mul,Int.one_mul]
 rw[Int.natCast_mul];omega
theorem Qe3(B:DLI)(hBl:B.2.length≤900000)(d:Nat):∀(j:Nat) (b:Bool) (o:List Int),j+d=B.2.length→o.length≤j→
  ∃c,Fcq (b,o) B (B.2.length:Int) (j:Int)=some (c,(B.2.drop j).foldl (fun o n=>insL n o) o):=by
 induction d with
 |zero=>
  intro j b o hj ho;exact⟨b,by rw[FcqE,gFo,K8 (by omega)];rfl⟩
 |succ d ih=>
  intro j b o hj ho
  have hlt:j<B.2.length:=by omega
  obtain⟨f1,e1⟩:=Qbo b o B.2[j] (by omega);have l1:=Q1b B.2[j] o;obtain⟨c,g⟩:=ih (j+1) f1 (insL B.2[j] o) (by omega) (by omega);refine⟨c,?_⟩;rw[FcqE,gTo,gTo,gTo,J2 B.2 _ j hlt,e1,J0,up1o j,J1,g,K2 hlt,K17]
theorem Qkw(B:DLI)(hBl:B.2.length≤900000):∃c,F40 (true,[]) B=some (c,Qr B.2):=by
 have hlim:=J4;obtain⟨c,e⟩:=Qe3 B hBl B.2.length 0 false [] (by omega) (by simp);have e':Fcq (false,[]) B (B.2.length:Int) 0=_:=e;refine⟨c,?_⟩;rw[F40E,F58E,gT (by simp only[K1m];omega),J0];simp only[K1l,e',J0,Kg];rfl
theorem Qex(q:DQuestion)(v:DSight)(many:Int)(b:Bool)(d:Nat):∀(i:Nat) (X:List DLI),i+d=X.length→X.length≤100000→Bnd X 900000→
  ∃X',Fc6 q v many (b,X) (X.length:Int) (i:Int)=some (b,X')∧X'.length=X.length∧∀k:Nat,k<X.length→Q1y X' k=if k<i then Q1y X k else Qr (Q1y X k):=by
 induction d with
 |zero=>
  intro i X hi hX hB;exact⟨X,by rw[Fc6E,gFo],rfl,fun k hk=>by rw[if_pos (by omega)]⟩
 |succ d ih=>
  intro i X hi hX hB
  have hlt:i<X.length:=by omega
  have hb:(X.getD i (true,[])).2.length ≤900000:=hB i hlt;obtain⟨c,e⟩:=Qkw (X.getD i (true,[])) hb
  have hrow:∀k:Nat,k<X.length→Q1y (X.set i (c,Qr (X.getD i (true,[])).2)) k=if k=i then Qr (Q1y X i)else Q1y X k:=by
   intro k hk
   by_cases ek:k=i
   ·subst ek;simp[Q1y,K1,hk]
   ·rw[if_neg ek];simp[Q1y,K1,List.getElem?_set_ne (show i≠k by omega)]
  obtain⟨X',g1,g2,g3⟩:=ih (i+1) (X.set i (c,Qr (X.getD i (true,[])).2)) (by rw[Km];omega) (by rw[Km];exact hX) (fun k hk=>by
   rw[Km]at hk;rw[hrow k hk];split
   ·exact K14 (Q3o _) (hB i hlt)
   ·exact hB k hk)
  rw[Km]at g1 g2 g3;refine⟨X',?_,g2,fun k hk=> ?_⟩
  ·rw[Fc6E];simp only[gT (show(i:Int)<(X.length:Int) by omega),gT (show(0:Int)≤(i:Int) by omega),Ql,e,J0,K3,up1o i,J1,g1]
  ·rw[g3 k hk,hrow k hk]
   by_cases e1:k=i
   ·subst e1;rw[if_pos rfl,if_pos (by omega),if_neg (by omega)]
   ·rw[if_neg e1]
    by_cases e2:k<i
    ·rw[if_pos (by omega),if_pos e2]
    ·rw[if_neg (by omega),if_neg e2]
theorem Qaa{q:DQuestion}{v:DSight}{c k:Nat}{z:Int}(hl:0≤ltC q v (c:Int)∧ltC q v (c:Int)≤7):
  (k,z)∈Q4g q v c↔∃to∈Q1f q.1 v.2 (c:Int),∃h:Nat,h<Q0 q.2.2.2∧gssF q.2.2 (ltC q v (c:Int)) (h:Int)<Q0 q.2.2.2∧k=c*Q0 q.2.2.2+gssF q.2.2 (ltC q v (c:Int)) (h:Int)∧z=to*(Q0 q.2.2.2:Int)+(h:Int):=by
 rw[Q4g,List.mem_flatMap];constructor
 ·rintro⟨e,he,hz⟩
  obtain⟨g,l,h,a1,a2,a3,a4,rfl⟩:=Q5e.1 he;unfold Q5y at hz;split at hz
  ·rename_i hL;obtain⟨to,hto,hk⟩:=Kx.1 hz;simp only at hL;have hk1:=(Prod.mk.inj hk).1;have hk2:=(Prod.mk.inj hk).2;rw[hL]at a4;exact⟨to,hto,h,a3,by omega,by rw[←hk1,a4];rfl,by rw[←hk2]⟩
  ·cases hz
 ·rintro⟨to,hto,h,a1,a2,rfl,rfl⟩
  obtain⟨l,el⟩:=Kc hl.1;refine⟨((gssF q.2.2 (ltC q v (c:Int)) (h:Int):Int),((l:Int),(h:Int))),Q5e.2 ⟨_,l,h,a2,by omega,a1,by rw[el],rfl⟩,?_⟩;unfold Q5y;rw[if_pos el.symm];exact Kx.2 ⟨to,hto,rfl⟩
theorem Q6p{q:DQuestion}{v:DSight}{c k:Nat}{z:Int}:
  (k,z)∈Q3i q v c↔∃to∈Q1f q.1 v.2 (c:Int),∃h:Nat,h<Q0 q.2.2.2∧k=c*Q0 q.2.2.2+gssF q.2.2 (ltC q v (c:Int)) (h:Int)∧z=to*(Q0 q.2.2.2:Int)+(h:Int):=by
 simp only[Q3i,toS,List.mem_flatMap,Kx,K1x];constructor
 ·rintro⟨to,hto,h,hh,e⟩
  exact⟨to,hto,h,hh,(Prod.mk.inj e).1.symm,(Prod.mk.inj e).2.symm⟩
 ·rintro⟨to,hto,h,hh,rfl,rfl⟩
  exact⟨to,hto,h,hh,rfl⟩
theorem Qk3{q:DQuestion}(h:Asks q){v:DSight}{c k:Nat}{z:Int}(hl:0≤ltC q v (c:Int)∧ltC q v (c:Int)≤7):(k,z)∈Q4g q v c↔(k,z)∈Q3i q v c:=by
 rw[Qaa hl,Q6p];constructor
 ·rintro⟨to,hto,j,h1,_,h3⟩
  exact⟨to,hto,j,h1,h3⟩
 ·rintro⟨to,hto,j,h1,h3⟩
  exact⟨to,hto,j,h1,(Q3s q.2.2 h.tr _ _ false).2.2,h3⟩
theorem Qf1{c g m k:Nat}(hg:g<m)(hk:k=c*m+g):c=k / m:=by
 have hm:0<m:=by omega
 rw[hk,Nat.add_comm,Nat.add_mul_div_right _ _ hm,Nat.div_eq_of_lt hg,K1o]
theorem Q6u(q:DQuestion)(L:Int)(c:Nat)(to:Int)(k:Nat):Qu (pick (toS q L c to) k):=by
 have h:(List.range (Q0 q.2.2.2)).Pairwise (· < ·):=List.pairwise_lt_range;rw[pick,toS];refine List.pairwise_map.2 (List.Pairwise.filter _ (List.pairwise_map.2 (h.imp fun hab=> ?_)));simp only;omega
theorem Q9w{q:DQuestion}(h:Asks q)(v:DSight)(c k:Nat):Qu (pick (Q3i q v c) k):=by
 have hm:=Qt h.tr;rw[Q3i,Q6t];refine Q90 _ (Qk _) _ (Q0 q.2.2.2:Int) (fun to _=>Q6u q _ c to k) (fun to _ y hy=> ?_) (by omega);rw[Q3v,toS,Kx]at hy;obtain⟨j,hj,e⟩:=hy;have hj:=K1x.1 hj;have e2:=(Prod.mk.inj e).2;rw[Int.add_mul];omega
theorem Qaf{q:DQuestion}(h:Asks q){v:DSight}(n:Nat)(hl:∀c:Nat,c<n→0≤ltC q v (c:Int)∧ltC q v (c:Int)≤7)(k:Nat):
  Qr (pick ((List.range' 0 n).flatMap (Q4g q v)) k)=pick ((List.range' 0 n).flatMap (Q3i q v)) k:=by
 refine Q6x ?_ fun z=> ?_
 ·rw[Q6t,Q5m _ (k / Q0 q.2.2.2) (fun a ha=> ?_) n 0]
  ·split
   ·exact Q9w h v _ k
   ·exact List.Pairwise.nil
  ·refine List.eq_nil_iff_forall_not_mem.2 fun z hz=>ha ?_
   obtain⟨to,_,j,_,e,_⟩:=Q6p.1 (Q3v.1 hz);exact Qf1 (Q3s q.2.2 h.tr _ _ false).2.2 e
 ·rw[Q3v,Q3v,List.mem_flatMap,List.mem_flatMap];constructor
  ·rintro⟨c,hc,hz⟩
   have:=List.mem_range'_1.1 hc;exact⟨c,hc,(Qk3 h (hl c (by omega))).1 hz⟩
  ·rintro⟨c,hc,hz⟩
   have:=List.mem_range'_1.1 hc;exact⟨c,hc,(Qk3 h (hl c (by omega))).2 hz⟩
theorem Qah(q:DQuestion)(hg:Q10 q.2.2.2=true){v:DSight}(hv:Sees q.1 v.2)(c:Nat):(Q4g q v c).length ≤400000:=by
 have hel:=Q5l q.2.2 hg;have hsl:=Q2c hv (c:Int);have:=Q16 (Q1r q.2.2) (Q5y c (ltC q v (c:Int)) (Q0 q.2.2.2) (Q1f q.1 v.2 (c:Int))) 40 (fun e _=>by have:=Q3l c (ltC q v (c:Int)) (Q0 q.2.2.2) (Q1f q.1 v.2 (c:Int)) e;omega);rw[Q4g];omega
theorem Q6y{q:DQuestion}(h:Asks q){v:DSight}(hv:Sees q.1 v.2)(n:Nat)(hl:∀c:Nat,c<n→0≤ltC q v (c:Int)∧ltC q v (c:Int)≤7)(k:Nat):(pick ((List.range' 0 n).flatMap (Q4g q v)) k).length ≤400000:=by
 have e:(List.range' 0 n).flatMap (fun c=>pick (Q4g q v c) k)=(List.range' 0 n).flatMap (fun c=>if c=k / Q0 q.2.2.2 then pick (Q4g q v c) k else[]):=by
  rw[List.flatMap_def,List.flatMap_def];refine congrArg List.flatten (List.map_congr_left fun c hc=> ?_);split
  ·rfl
  ·rename_i ne;have:=List.mem_range'_1.1 hc
   refine List.eq_nil_iff_forall_not_mem.2 fun z hz=>ne ?_
   obtain⟨to,_,j,_,hg,e,_⟩:=(Qaa (hl c (by omega))).1 (Q3v.1 hz);exact Qf1 hg e
 rw[Q6t,e,Q5m _ (k / Q0 q.2.2.2) (fun a ha=>if_neg ha) n 0];split
 ·rw[if_pos rfl];exact K14 (Q4f _ _) (Qah q h.tr hv _)
 ·simp
theorem Qae{X:List DLI}{k:Nat}(hk:k<(X.map Prod.snd).length):(X.map Prod.snd)[k]=Q1y X k:=by
 rw[Kh]at hk;simp[Q1y,K1,hk]
theorem Qjc{X Y:List DLI}(hl:X.length=Y.length)(h:∀k:Nat,k<X.length→Q1y X k=Q1y Y k):X.map Prod.snd=Y.map Prod.snd:=
 List.ext_getElem (by simp[hl]) fun k h1 h2=>by
  rw[Qae h1,Qae h2];exact h k (by simpa using h1)
theorem Q39(A B:List Int)(m:Int)(n:Nat)(h:B.length≤n):(Q12 A B m).length ≤A.length*n:=Q16 A _ n fun x _=>by rw[Kh];exact h
theorem Q6w(n k:Nat):Q1y (List.replicate n ((true,[]):DLI)) k=[]:=by
 simp only[Q1y,K1,K21];split<;>rfl
theorem Qec{X:List DLI}(hl:X.length≤1048576){n:Nat}(hn:n≤1048576)(hB:Bnd X n):Q86 X:=by
 refine⟨hl,fun x hx=> ?_⟩;obtain⟨k,hk,rfl⟩:=List.mem_iff_getElem.1 hx;have h1:=hB k hk
 have e:Q1y X k=(X[k]).2 :=by simp[Q1y,K1,hk]
 rw[e]at h1;omega
theorem Qgz{X:List DLI}{L:List (List Int)}(h:X.map Prod.snd=L)(hl:L.length≤1048576)(hn:∀l∈L,l.length≤1048576):Q86 X:=by
 refine⟨by rw[←h,Kh]at hl;exact hl,fun x hx=>hn _ (by rw[←h];exact K1j hx)⟩
structure BesideOk (q:DQuestion) (v:DSight) (N':List DLI) (A:List Int) (G':List DLI):Prop where
 wide:∃n:Nat,(n:Int)=Q2w v.2∧1≤n∧N'.length=n*Q0 q.2.2.2
 one:1≤N'.length
 most:N'.length≤1600
 rows:∀r∈N',r.2.length≤1600∧∀w∈r.2,0≤w∧w<(N'.length:Int)
 firstl:A.length≤2000
 first:∀w∈A,0≤w∧w<(N'.length:Int)
 goals:∀r∈G',r.1=false∧r.2.length≤2000∧∀w∈r.2,0≤w∧w<(N'.length:Int)
 goalsl:G'.length≤16
 starts:∀w∈A,Int.tdiv w (Q0 q.2.2.2:Int)∈Qas q.1 v.2 q.1.2.2.1.2
theorem Qaz(gv:Bool){q:DQuestion}(h:Asks q){v:DSight}(hv:Sees q.1 v.2)(hg:Q6 q.1 v.2=true)(hf:FitQ q v.2):
  ∃f1 f2 f3 g1 g3 N N' A G G',Fa q v=some ((f1,N),(f2,A),(f3,G))∧Fb q (gv,v.2)=some ((g1,N'),(false,A),(g3,G'))∧N'.map Prod.snd=N.map Prod.snd∧G'.map Prod.snd=G.map Prod.snd∧Q86 N'∧Q86 G'∧A.length≤1048576∧BesideOk q v N' A G':=by
 have hlim:=J4;have hm:=Qt h.tr;have hmv:=hv.manyV;have hmc:=Q3t v.2 hv.inn;obtain⟨n,hn⟩:=Kc hmc.1;have hfl:=(Qi (Q1a h.tr).1).2.1;obtain⟨c1,c2,c3,X,a1,a2,a3⟩:=Qks q.2.2 h.tr;obtain⟨d3,Z,b1,b2,b3⟩:=Qkm q.2.2 h.tr
 have many1:F2p v=some (n:Int):=by rw[Qfy v (by omega) hv.inn,hn]
 have many2:F15 (gv,v.2)=some (n:Int):=by rw[Q5s (gv,v.2) (by simp only;omega) (by simp only;omega) hv.inn];exact congrArg some hn
 have hnm:n*Q0 q.2.2.2≤40*40:=Nat.mul_le_mul (by omega) (by omega)
 have ew:i64.wrap ((n:Int)*(Q0 q.2.2.2:Int))=((n*Q0 q.2.2.2:Nat):Int):=by
  rw[←Int.natCast_mul,wr (by omega)]
 have hB0:Bnd (List.replicate (n*Q0 q.2.2.2) ((true,[]):DLI)) 0:=fun k _=>by rw[Q6w];exact Kz _
 have hl:∀c:Nat,c<n→0≤ltC q v (c:Int)∧ltC q v (c:Int)≤7:=fun c hc=>(Q8t h hv hf (c:Int) (Q4x hg (c:Int) (by omega))).2.2
 obtain⟨X1,s1,s2⟩:=Qeu h hv hg hf n hn c1 c2 (c3,X) n 0 (List.replicate (n*Q0 q.2.2.2) ((true,[]):DLI)) 0 (by omega) (by simp) hB0 (by omega);have s1':Fbf q v ((Q0 q.2.2.2:Int),(c1,Q31 q.2.2.2),(c2,Q1r q.2.2),(c3,X)) (n:Int) (false,List.replicate (n*Q0 q.2.2.2) ((true,[]):DLI)) 0=_:=s1
 have l1:X1.length=n*Q0 q.2.2.2:=by rw[s2.len,Kv]
 have row1:∀k:Nat,k<n*Q0 q.2.2.2→Q1y X1 k=pick ((List.range' 0 n).flatMap (Q4g q v)) k:=fun k hk=>by
  rw[s2.row k (by rw[Kv];exact hk),Q6w,Kt]
 obtain⟨X2,u1,u2,u3⟩:=Qex q v (n:Int) false X1.length 0 X1 (by omega) (by omega) (fun k hk=>by rw[row1 k (by omega)];have:=Q6y h hv n hl k;omega);have u1':Fc6 q v (n:Int) (false,X1) (X1.length:Int) 0=_:=u1;obtain⟨f3,G,w1,w2⟩:=Qey q v ((Q0 q.2.2.2:Int),(c1,Q31 q.2.2.2),(c2,Q1r q.2.2),(c3,X)) n (by omega) h.tr rfl (false,X2) c3 X (by omega) (fun x hx=>by rw[←a2];exact K1j hx) X.length 0 true [] (by omega) (by simp);have w1':F8z q v ((Q0 q.2.2.2:Int),(c1,Q31 q.2.2.2),(c2,Q1r q.2.2),(c3,X)) (n:Int) (false,X2) (true,[]) (c3,X) (X.length:Int) 0=_:=w1;obtain⟨Y1,p1,p2⟩:=Qde (v:=(gv,v.2)) h hv hg hf n hn (false,[]) n 0 (List.replicate (n*Q0 q.2.2.2) ((true,[]):DLI)) 0 (by omega) (by simp) hB0 (by omega);have p1':Fas q (gv,v.2) (n:Int) (Q0 q.2.2.2:Int) (false,List.replicate (n*Q0 q.2.2.2) ((true,[]):DLI)) (false,[]) (n:Int) 0=_:=p1
 have eLt:∀c:Nat,c<n→ltC q (gv,v.2) (c:Int)=ltC q v (c:Int):=fun c hc=>by
  have hm:=Q4x hg (c:Int) (by omega);obtain⟨r1,z1,_,_,_,z2⟩:=Q26 h hv hf (c:Int) hm gv gv;obtain⟨r2,z3,_,_,_,z4⟩:=Q26 h hv hf (c:Int) hm v.1 v.1;have z3':F79 q v (c:Int)=some r2:=z3;obtain⟨j,hj,ej⟩:=List.mem_iff_getElem.1 hm
  have hgj:v.2.getD j 0=(c:Int):=by rw[K1,Ka hj,ej];rfl
  unfold ltC;rw[z1,z3'];show r1=r2;rw[←z2 j hj hgj,z4 j hj hgj]
 have eS:(List.range' 0 n).flatMap (Q3i q (gv,v.2))=(List.range' 0 n).flatMap (Q3i q v):=by
  rw[List.flatMap_def,List.flatMap_def];congr 1;refine List.map_congr_left (fun c hc=> ?_)
  have:c<n:=by have:=List.mem_range'_1.1 hc;omega
  unfold Q3i;rw[eLt c this]
 rw[eS]at p2
 have l2:Y1.length=n*Q0 q.2.2.2:=by rw[p2.len,Kv]
 have row2:∀k:Nat,k<n*Q0 q.2.2.2→Q1y Y1 k=pick ((List.range' 0 n).flatMap (Q3i q v)) k:=fun k hk=>by
  rw[p2.row k (by rw[Kv];exact hk),Q6w,Kt]
 obtain⟨g3,G',r1,r2,r5⟩:=Qdh q (gv,v.2) h.tr n (by omega) (false,Y1) d3 Z (by omega) (fun x hx=>by rw[←b2];exact K1j hx) Z.length 0 false [] (by omega) (by simp);have r1':Fbi q (gv,v.2) (n:Int) (Q0 q.2.2.2:Int) (false,Y1) (false,[]) (d3,Z) (Z.length:Int) 0=_:=r1;have hstl:=Q3e q.1 q.1.2.2.1.2 0 (Q4 q.1)
 have hsti:∀x∈Q7 q.1 q.1.2.2.1.2 0 (Q4 q.1),0≤x∧x<(Q4 q.1:Int):=fun x hx=>(Q2d.1 hx).1
 have hms:=Qa h.ok.sml;obtain⟨t1,e1⟩:=Qbp h.ok.sml q.1.2.2.1 h.ok.wf.1 hv.start;obtain⟨t2,e2⟩:=Qlf h.ok.sml q.1.2.2.1 h.ok.wf.1 hv.start;obtain⟨t3,e3⟩:=hv.clsS (t1,Q7 q.1 q.1.2.2.1.2 0 (Q4 q.1)) (by simp only;omega) hsti v.1;have e3':F2x v (t1,Q7 q.1 q.1.2.2.1.2 0 (Q4 q.1))=some (t3,Qr (clsL v.2 (Q7 q.1 q.1.2.2.1.2 0 (Q4 q.1)))):=e3;have e4:=hv.clsP (t2,Q7 q.1 q.1.2.2.1.2 0 (Q4 q.1)) (by simp only;omega) hsti gv;have e4':F3f (gv,v.2) (t2,Q7 q.1 q.1.2.2.1.2 0 (Q4 q.1))=some (false,Qr (clsL v.2 (Q7 q.1 q.1.2.2.1.2 0 (Q4 q.1)))):=e4
 have hsi:∀x∈Qr (clsL v.2 (Q7 q.1 q.1.2.2.1.2 0 (Q4 q.1))),0≤x∧x<(n:Int):=fun x hx=>by
  rw[←hn];exact Q8d v.2 (fun y hy=>(hv.inn y hy).1) _ (fun y hy=>by rw[hv.len];exact hsti y hy) x ((Qm _ x).1 hx)
 have hsl:=Q1q (Qk (clsL v.2 (Q7 q.1 q.1.2.2.1.2 0 (Q4 q.1)))) hsi;have hfi:=Qd5 q.2.2.2;have hfll:(Q31 q.2.2.2).length ≤Q0 q.2.2.2:=Q4j _ _;obtain⟨f2,e5⟩:=Qcm (c1,Q31 q.2.2.2) (Q0 q.2.2.2) n (by omega) (by omega) (by simp only;omega) hfi (t3,Qr (clsL v.2 (Q7 q.1 q.1.2.2.1.2 0 (Q4 q.1)))) (by simp only;omega) hsi;have e6:=Q87 h n (by omega) (false,Qr (clsL v.2 (Q7 q.1 q.1.2.2.1.2 0 (Q4 q.1)))) (by simp only;omega) hsi;have hAl:=Q39 (Qr (clsL v.2 (Q7 q.1 q.1.2.2.1.2 0 (Q4 q.1)))) (Q31 q.2.2.2) (Q0 q.2.2.2:Int) 40 (by omega);refine⟨false,f2,f3,false,g3,X2,Y1,Q12 (Qr (clsL v.2 (Q7 q.1 q.1.2.2.1.2 0 (Q4 q.1)))) (Q31 q.2.2.2) (Q0 q.2.2.2:Int),G,G',?_,?_,?_,?_,?_,?_,by omega,?_⟩
 ·rw[FaE,a1,J0,many1,J0];simp only[ew,K3,gT (show(0:Int)≤((n*Q0 q.2.2.2:Nat):Int) by omega),gT (show((n*Q0 q.2.2.2:Nat):Int)≤(lim:Int) by omega),gT (Int.le_refl ((n*Q0 q.2.2.2:Nat):Int)),s1',J0,u1',w1',e1,e3',e5,Kt]
 ·rw[FbE,many2,J0,Q6k q.2.2 h.tr,J0];simp only[ew,K3,gT (show(0:Int)≤((n*Q0 q.2.2.2:Nat):Int) by omega),gT (show((n*Q0 q.2.2.2:Nat):Int)≤(lim:Int) by omega),gT (Int.le_refl ((n*Q0 q.2.2.2:Nat):Int)),p1',J0,b1,r1',e2,e4',e6,Kt]
 ·refine Qjc (by rw[l2,u2,l1]) fun k hk=> ?_
  rw[row2 k (by omega),u3 k (by omega),if_neg (by omega),row1 k (by omega),Qaf h n hl k]
 ·rw[r2,w2,Kg,Kg]
  have q1:Z.map (fun g=>Q12 ((List.range n).map Int.ofNat) g.2 (Q0 q.2.2.2:Int))=(Z.map Prod.snd).map fun g=>Q12 ((List.range n).map Int.ofNat) g (Q0 q.2.2.2:Int):=by rw[List.map_map];rfl
  have q2:X.map (fun g=>Q12 ((List.range n).map Int.ofNat) g.2 (Q0 q.2.2.2:Int))=(X.map Prod.snd).map fun g=>Q12 ((List.range n).map Int.ofNat) g (Q0 q.2.2.2:Int):=by rw[List.map_map];rfl
  rw[q1,q2,a2,b2]
 ·refine Qec (by omega) (n:=100000) (by omega) fun k hk=> ?_
  rw[row2 k (by omega)];have h1:=Q4f ((List.range' 0 n).flatMap (Q3i q v)) k
  have h2:=Q16 (List.range' 0 n) (Q3i q v) 2000 (fun c _=>by
   have h3:=Q2c hv (c:Int);have:=Q16 (Q1f q.1 v.2 (c:Int)) (toS q (ltC q v (c:Int)) c) 32 (fun to _=>by rw[Q5g];omega);rw[Q3i]
   omega)
  rw[List.length_range']at h2;omega
 ·refine Qgz r2 (by simp;omega) fun l hlm=> ?_
  obtain⟨x,hx,rfl⟩:=Kx.1 hlm
  have hx':x.2∈Q44 q.2.2.2:=by rw[←b2];exact K1j (List.mem_of_mem_drop hx)
  have h1:=(Q4u _ _ hx').1;have h2:=Q39 ((List.range n).map Int.ofNat) x.2 (Q0 q.2.2.2:Int) 40 (by omega);rw[Kh,List.length_range]at h2;omega
 ·have hn1:=Qgc hv
  have hn1':1≤n:=by have:=hn1.1;have h2:=hn1.2.1;omega
  have hstl':=fun c=>Q73 hv c
  have hY1:Y1.length=n*Q0 q.2.2.2:=l2
  have hrows:∀r∈Y1,Qu r.2∧∀w∈r.2,0≤w∧w<((n*Q0 q.2.2.2:Nat):Int):=by
   intro r hr;obtain⟨k,hk,rfl⟩:=List.mem_iff_getElem.1 hr
   have e:Q1y Y1 k=(Y1[k]).2 :=by simp[Q1y,K1,hk]
   rw[←e,row2 k (by omega)];refine⟨by rw[←Qaf h n hl k];exact Qk _,fun w hw=> ?_⟩;obtain⟨c,_,hw⟩:=List.mem_flatMap.1 (Q3v.1 hw);obtain⟨to,hto,j,hj,_,rfl⟩:=Q6p.1 hw;have h1:=hstl' (c:Int) to hto;rw[hn]at h1;have h3:to*(Q0 q.2.2.2:Int)≤((n:Int)-1)*(Q0 q.2.2.2:Int):=Int.mul_le_mul_of_nonneg_right (by omega) (by omega);have h4:0≤to*(Q0 q.2.2.2:Int):=Int.mul_nonneg h1.1 (by omega)
   have h5:((n:Int)-1)*(Q0 q.2.2.2:Int)=(n:Int)*(Q0 q.2.2.2:Int)-(Q0 q.2.2.2:Int):=by rw[Int.sub_mul,Int.one_mul]
   rw[Int.natCast_mul];omega
  have hpos:1≤n*Q0 q.2.2.2:=Nat.mul_pos hn1' (by omega);refine⟨⟨n,hn.symm,hn1',l2⟩,by omega,by omega,fun r hr=> ?_,by omega,?_,fun r hr=> ?_,?_,fun w hw=> ?_⟩
  ·obtain⟨h1,h2⟩:=hrows r hr;have:=Q1q h1 h2;rw[l2];exact⟨by omega,h2⟩
  ·rw[l2];exact Qac hsi hfi
  ·have hm1:r.2∈G'.map Prod.snd:=K1j hr;rw[r2,Kg]at hm1;obtain⟨x,hx,hx2⟩:=Kx.1 hm1
   have hx':x.2∈Q44 q.2.2.2:=by rw[←b2];exact K1j hx
   obtain⟨h1,h2⟩:=Q4u _ _ hx';have h3:=Q39 ((List.range n).map Int.ofNat) x.2 (Q0 q.2.2.2:Int) 40 (by omega);rw[Kh,List.length_range]at h3;refine⟨r5 r hr,by rw[←hx2];omega,?_⟩;rw[←hx2,l2];refine Qac (fun y hy=> ?_) h2;obtain⟨i,hi,rfl⟩:=Kx.1 hy;rw[K1x]at hi;exact⟨Int.natCast_nonneg _,Int.ofNat_lt.2 hi⟩
  ·have:=congrArg List.length r2;rw[Kh,Kh,Kg]at this;omega
  ·obtain⟨a,h1,h2⟩:=List.mem_flatMap.1 hw;obtain⟨b,h3,rfl⟩:=Kx.1 h2;have h4:=hsi a h1;have h5:=hfi b h3;have h6:0≤a*(Q0 q.2.2.2:Int):=Int.mul_nonneg h4.1 (by omega)
   have e:Int.tdiv (a*(Q0 q.2.2.2:Int)+b) (Q0 q.2.2.2:Int)=a:=by
    rw[Int.tdiv_eq_ediv_of_nonneg (by omega),Int.add_comm,Int.add_mul_ediv_right _ _ (by omega),Int.ediv_eq_zero_of_lt h5.1 h5.2,Int.zero_add]
   rw[e];exact h1
theorem Qa9(d:Nat):∀(i:Nat) (b:Bool) (x:List DSaid) (k:Int),i+d=x.length→x.length≤1048576→0≤k→k+2*d≤4000000000000000000→∃y,F90 (b,x) k (i:Int)=some ((b,y),k+2*d):=by
 induction d with
 |zero=>
  intro i b x k hi hl hk hk2;exact⟨x,by rw[F90E,gF (by simp only;omega)];simp⟩
 |succ d ih=>
  intro i b x k hi hl hk hk2
  have hlt:i<x.length:=by omega
  have hw:i64.wrap (k+1)=k+1:=wr (by omega)
  have hw2:i64.wrap (k+1+1)=k+2:=by rw[wr (by omega)];omega
  obtain⟨y,e⟩:=ih (i+1) b ((x.set i (k,(x.getD i (0,0)).2)).set i (((x.set i (k,(x.getD i (0,0)).2)).getD i (0,0)).1,k+1)) (k+2) (by simp;omega) (by simpa using hl) (by omega) (by omega);refine⟨y,?_⟩;rw[F90E];simp only[gT (show(i:Int)<(x.length:Int) by omega),gT (show(0:Int)≤(i:Int) by omega),Km,K3,hw,hw2,up1o i,J1,e];congr 2;omega
theorem Qgd(b:Bool)(x:List DSaid)(k:Int)(hl:x.length≤1048576)(h0:0≤k)(hk:k+2*x.length≤4000000000000000000):∃y,F4p (b,x) k=some ((b,y),k+2*x.length):=by
 obtain⟨y,e⟩:=Qa9 x.length 0 b x k (by omega) hl h0 hk;have e':F90 (b,x) k 0=_:=e;exact⟨y,by rw[F4pE,e',J0]⟩
theorem Qa8(q:DQuestion)(hs:SmQ q):∃a b c d k,F7a q.1.1 q.1.2.1 (q.1.2.2.1.1,q.1.2.2.1.2) (q.1.2.2.2.1,q.1.2.2.2.2) (q.2.1.1,q.2.1.2) (q.2.2.1,q.2.2.2) 1=some (a,b,c,d,k)∧1≤k∧k≤3100000000000000000:=by
 obtain⟨y,z,k',e1,e2,e3⟩:=Qbt q.1 hs.prog 1 (by omega) (by omega);have hz:=Q47 hs.rows;have e4:=Q7v q.2.1.1 q.2.1.2 k' hs.rows (by omega) (by omega);have hl:=hs.said;obtain⟨w,e5⟩:=Qgd q.2.2.1 q.2.2.2 (k'+2*Q2q q.2.1.2) hl (by omega) (by omega);refine⟨(y.1,y.2),(z.1,z.2),(q.2.1.1,Q5a k' q.2.1.2),(q.2.2.1,w),k'+2*Q2q q.2.1.2+2*q.2.2.2.length,by rw[F7aE,e1,J0];simp only[e4,J0,e5],?_,?_⟩<;>omega
def numF{α:Type}[BEq α]:List α→List α→List Int
 |[],_=>[]
 |x::l,K=>match K.findIdx? (fun y=>x==y)with
  |some i=>(i:Int)::numF l K
  |none=>(K.length:Int)::numF l (K++[x])
def numL{α:Type}[BEq α](l:List α):List Int:=numF l []
theorem Q4e{α:Type}[BEq α](l:List α):∀K,(numF l K).length =l.length:=by
 induction l with
 |nil=>intro K;rfl
 |cons x l ih=>
  intro K;rw[numF];split
  ·simp[ih]
  ·simp[ih]
theorem findIdx?_lt{α:Type}{K:List α}{q:α→Bool}{i:Nat}(h:K.findIdx? q=some i):i<K.length:=by
 rw[List.findIdx?_eq_some_iff_getElem]at h;exact h.1
theorem findIdx?_more{α:Type}{K L:List α}{q:α→Bool}{i:Nat}(h:K.findIdx? q=some i):(K++L).findIdx? q=some i:=by
 rw[List.findIdx?_append,h];rfl
theorem findIdx?_new{α:Type}{K:List α}{q:α→Bool}{x:α}(h:K.findIdx? q=none)(hx:q x=true):(K++[x]).findIdx? q=some K.length:=by
 rw[List.findIdx?_append,h,List.findIdx?_cons,hx];simp
theorem Qe6{α:Type}[BEq α](l:List α):∀K:List α,Q2l (K.length:Int) (numF l K)=true:=by
 induction l with
 |nil=>intro K;rfl
 |cons x l ih=>
  intro K;rw[numF];split
  ·rename_i i hi;have hlt:=findIdx?_lt hi;rw[Q2l,decide_eq_true (by omega),Ky,if_neg (by omega)];exact ih K
  ·rw[Q2l,decide_eq_true (by omega),Ky,if_pos rfl];have:=ih (K++[x]);rw[Kf]at this;exact this
theorem Qj5{α:Type}[BEq α][LawfulBEq α](l:List α):∀K:List α,∃L,∀(i:Nat) (hi:i<l.length),∃c:Nat,(K++L).findIdx? (fun y=>l[i]==y)=some c∧(numF l K)[i]? =some (c:Int):=by
 induction l with
 |nil=>intro K;exact⟨[],fun i hi=>absurd hi (by simp)⟩
 |cons x l ih=>
  intro K;rw[numF];split
  ·rename_i k hk;obtain⟨L,hL⟩:=ih K;refine⟨L,fun i hi=> ?_⟩
   cases i with
   |zero=>exact⟨k,findIdx?_more hk,rfl⟩
   |succ i=>
    obtain⟨c,h1,h2⟩:=hL i (by simpa using hi);exact⟨c,h1,h2⟩
  ·rename_i hk;obtain⟨L,hL⟩:=ih (K++[x]);refine⟨[x]++L,fun i hi=> ?_⟩
   cases i with
   |zero=>
    refine⟨K.length,?_,rfl⟩;rw[←Kj];exact findIdx?_more (findIdx?_new hk (by simp))
   |succ i=>
    obtain⟨c,h1,h2⟩:=hL i (by simpa using hi);exact⟨c,by rw[←Kj];exact h1,h2⟩
theorem findIdx?_at{α:Type}[BEq α][LawfulBEq α]{K:List α}{x:α}{i:Nat}(h:K.findIdx? (fun y=>x==y)=some i):K[i]? =some x:=by
 rw[List.findIdx?_eq_some_iff_getElem]at h;obtain⟨h1,h2,_⟩:=h;rw[Ka h1];exact congrArg some (eq_of_beq h2).symm
theorem Qgo{α:Type}[BEq α][LawfulBEq α](l:List α)(i j:Nat)(hi:i<l.length)(hj:j<l.length):(numL l).getD i 0=(numL l).getD j 0↔l[i]=l[j]:=by
 obtain⟨L,hL⟩:=Qj5 l [];obtain⟨c,h1,h2⟩:=hL i hi;obtain⟨d,h3,h4⟩:=hL j hj
 have e1:(numL l).getD i 0=(c:Int):=by rw[K1];show((numF l [])[i]?).getD 0=_;rw[h2];rfl
 have e2:(numL l).getD j 0=(d:Int):=by rw[K1];show((numF l [])[j]?).getD 0=_;rw[h4];rfl
 rw[e1,e2];constructor
 ·intro h
  have:c=d:=by omega
  subst this;have a:=findIdx?_at h1;have b:=findIdx?_at h3;rw[a]at b;exact Option.some.inj b
 ·intro h;have h1':=h1;rw[h,h3]at h1';have:=Option.some.inj h1';omega
theorem Qj6{α β:Type}[BEq α][BEq β](a0:α)(b0:β)(l:List α)(m:List β)(hlen:l.length=m.length)(hp:∀i j:Nat,i<l.length→j<l.length→(l.getD i a0==l.getD j a0)=(m.getD i b0==m.getD j b0))(d:Nat):∀(i:Nat) (js:List Nat),i+d=l.length→(∀j∈js,j<l.length)→
  numF (l.drop i) (js.map fun j=>l.getD j a0)=numF (m.drop i) (js.map fun j=>m.getD j b0):=by
 induction d with
 |zero=>
  intro i js hi hj;rw[K8 (by omega),K8 (by omega)];rfl
 |succ d ih=>
  intro i js hi hj
  have h1:i<l.length:=by omega
  have h2:i<m.length:=by omega
  have e1:l.getD i a0=l[i]:=by simp[K1,h1]
  have e2:m.getD i b0=m[i]:=by simp[K1,h2]
  rw[K2 h1,K2 h2,numF,numF,←e1,←e2]
  have hf:(js.map fun j=>l.getD j a0).findIdx? (fun y=>l.getD i a0==y)=(js.map fun j=>m.getD j b0).findIdx? (fun y=>m.getD i b0==y):=by
   rw[List.findIdx?_map,List.findIdx?_map]
   have key:∀js:List Nat,(∀j∈js,j<l.length)→js.findIdx? ((fun y=>l.getD i a0==y)∘fun j=>l.getD j a0)=js.findIdx? ((fun y=>m.getD i b0==y)∘fun j=>m.getD j b0):=by
    intro js
    induction js with
    |nil=>intro _;rfl
    |cons j js ih2=>
     intro hj;rw[List.findIdx?_cons,List.findIdx?_cons,ih2 fun k hk=>hj k (K9 _ hk)];have hq:((fun y=>l.getD i a0==y)∘fun j=>l.getD j a0) j=((fun y=>m.getD i b0==y)∘fun j=>m.getD j b0) j:=hp i j h1 (hj j Kk);simp only[hq]
   exact key js hj
  rw[hf];split
  ·rw[ih (i+1) js (by omega) hj]
  ·have:=ih (i+1) (js++[i]) (by omega) (fun j hj2=>by
    rcases Kl.1 hj2 with h|h
    ·exact hj j h
    ·rw[Kn]at h;omega)
   rw[List.map_append,List.map_append]at this;simp only[K12,List.map_nil]at this;rw[this,Kh,Kh]
theorem Qcz{α β:Type}[BEq α][BEq β](a0:α)(b0:β)(l:List α)(m:List β)(hlen:l.length=m.length)(hp:∀i j:Nat,i<l.length→j<l.length→(l.getD i a0==l.getD j a0)=(m.getD i b0==m.getD j b0)):numL l=numL m:=by
 have:=Qj6 a0 b0 l m hlen hp l.length 0 [] (by omega) (fun j hj=>by cases hj);rw[Kg,Kg]at this;exact this
def entL(K:List DSaid):List (DSaid×Int):=K.mapIdx fun i k=>(k,(i:Int))
theorem Qff(K:List DSaid)(x:DSaid):entL (K++[x])=entL K++[(x,(K.length:Int))]:=by
 simp[entL,List.mapIdx_append]
theorem Qi3(x y:DSaid):(eqD tySaid x y==some true)=(x==y):=by
 have:eqD tySaid x y=some (((x.1:Int)==(y.1:Int))&&((x.2:Int)==(y.2:Int))):=rfl;rw[this];have e:(x==y)=(((x.1:Int)==(y.1:Int))&&((x.2:Int)==(y.2:Int))):=rfl;rw[e];cases((x.1:Int)==(y.1:Int))<;>cases((x.2:Int)==(y.2:Int))<;>rfl
theorem Qci(K:List DSaid)(x:DSaid):J1o tySaid (.int .i64) (entL K) x=K.findIdx? (fun y=>x==y):=by
 have e:(fun(e:Den (.pair tySaid (.int .i64)))=>eqD tySaid x e.1==some true)=(fun y=>x==y)∘Prod.fst:=by
  funext e;exact Qi3 x e.1
 show List.findIdx? _ (entL K)=_;rw[e,←List.findIdx?_map];congr 1
 exact List.ext_getElem (by simp[entL]) fun i h1 h2=>by simp[entL]
theorem Qkl(K:List DSaid)(x:DSaid):Jj tySaid (.int .i64) (entL K) x=(K.findIdx? (fun y=>x==y)).map Int.ofNat:=by
 have hm:=Qci K x
 cases h:K.findIdx? (fun y=>x==y)with
 |none=>
  rw[h]at hm
  have e:Jj tySaid (.int .i64) (entL K) x=none:=by delta Jj;simp only[hm]
  rw[e];rfl
 |some i=>
  rw[h]at hm
  have e:Jj tySaid (.int .i64) (entL K) x=some ((entL K).getD i (dflt (.pair tySaid (.int .i64)))).2 :=by delta Jj;simp only[hm];rfl
  rw[e];have hlt:=findIdx?_lt h
  have this:∀z:DSaid×Int,(entL K).getD i z=(K[i],(i:Int)):=fun z=>by
   rw[K1,Ka (by simpa[entL]using hlt)];simp[entL]
  exact congrArg (fun q:DSaid×Int=>some q.2) (this _)
theorem Ql6(K:List DSaid)(x:DSaid)(h:K.findIdx? (fun y=>x==y)=none):J2a tySaid (.int .i64) (entL K) x (K.length:Int)=entL (K++[x]):=by
 have hm:=Qci K x;rw[h]at hm
 have e:J2a tySaid (.int .i64) (entL K) x (K.length:Int)=entL K++[(x,(K.length:Int))]:=by delta J2a;simp only[hm];rfl
 rw[e,Qff]
theorem Qby(t2:DSight)(l:Bool×List DSaid)(hl:l.2.length≤100000)(d:Nat):∀(i:Nat) (K:List DSaid) (b:Bool) (o:List Int),i+d=l.2.length→K.length≤i→o.length=i→
  ∃r c,F71 t2 (false,entL K) (b,o) l (l.2.length:Int) (i:Int)=some (r,(c,o++numF (l.2.drop i) K)):=by
 have hlim:=J4
 induction d with
 |zero=>
  intro i K b o hi hK ho;exact⟨(false,entL K),b,by rw[F71E,gFo,K8 (by omega)];simp[numF]⟩
 |succ d ih=>
  intro i K b o hi hK ho
  have hlt:i<l.2.length:=by omega
  have hel:(entL K).length =K.length:=by simp[entL]
  rw[F71E,gTo,gTo,gTo,J2 l.2 _ i hlt,K2 hlt,numF,up1o i];simp only[Qkl,hel]
  cases h:K.findIdx? (fun y=>l.2[i]==y)with
  |none=>
   obtain⟨r,c,g⟩:=ih (i+1) (K++[l.2[i]]) (b&&false) (o++[(K.length:Int)]) (by omega) (by simp;omega) (by simp[ho]);refine⟨r,c,?_⟩;simp only[Option.map_none,Option.isSome_none,K2e,cond_true];rw[gTo,gT (by simp;omega),Ql6 K _ h,J1,g];simp
  |some k=>
   obtain⟨r,c,g⟩:=ih (i+1) K (b&&false) (o++[(k:Int)]) (by omega) (by omega) (by simp[ho]);refine⟨r,c,?_⟩;simp only[Option.map_some,Option.isSome_some,K5,cond_false,Option.getD_some];rw[gT (by simp;omega),J1];have g':F71 t2 (false,entL K) (b&&false,o++[Int.ofNat k]) l (l.2.length:Int) ((i+1:Nat):Int)=_:=g;rw[g'];simp
theorem Qd0(l:Bool×List DSaid)(hl:l.2.length≤100000):∃c,F2d l=some (c,numL l.2):=by
 obtain⟨r,c,g⟩:=Qby (true,[]) l hl l.2.length 0 [] true [] (by omega) (by simp) rfl;have g':F71 (true,[]) (false,[]) (true,[]) l (l.2.length:Int) 0=_:=g;exact⟨c,by rw[F2dE,g',J0,Kg,Kt];rfl⟩
theorem Qin(l:DLI)(hl:l.2.length≤100000)(t2:DSight)(b:Bool)(o:List Int)(many:Int)(i:Nat)(hi:i<l.2.length)(ho:o.length=i)(K:List Int)(hK:∀j:Nat,j<i→K.findIdx? (fun y=>l.2.getD j 0==y)=some (o.getD j 0).toNat ∧0≤o.getD j 0)(hK2:∀y∈K,∃j:Nat,j<i∧l.2.getD j 0=y)(t9:DLI)(t10 t11:Int)(d:Nat):∀j:Nat,j+d=i→(∀k:Nat,k<j→l.2.getD k 0≠l.2.getD i 0)→
  F9z l t2 (b,o) many (i:Int) (l.2.getD i 0) many (j:Int) t9 t10 t11=some (match K.findIdx? (fun y=>l.2.getD i 0==y)with
   |some c=>(c:Int)
   |none=>many):=by
 induction d with
 |zero=>
  intro j hj hn
  have:K.findIdx? (fun y=>l.2.getD i 0==y)=none:=by
   rw[List.findIdx?_eq_none_iff];intro y hy;obtain⟨k,hk,e⟩:=hK2 y hy;rw[beq_eq_false_iff_ne,←e]
   exact fun h=>hn k (by omega) h.symm
  rw[F9zE,gFo,this]
 |succ d ih=>
  intro j hj hn;rw[F9zE,gTo,gTo,gTo,Ql,up1o j]
  by_cases e:l.2.getD j 0=l.2.getD i 0
  ·obtain⟨h1,h2⟩:=hK j (by omega);rw[e]at h1;rw[bT (by rw[beq_iff_eq];exact e),gTo,gTs,K3,h1];simp only;rw[K1t h2]
  ·rw[bF (beqF e),J1]
   exact ih (j+1) (by omega) (fun k hk=>by
    by_cases h:k=j
    ·subst h;exact e
    ·exact hn k (by omega))
theorem Qim(l:DLI)(hl:l.2.length≤100000)(t2:DSight)(d:Nat):∀(i:Nat) (K:List Int) (b:Bool) (o:List Int),i+d=l.2.length→K.length≤i→o.length=i→(∀j:Nat,j<i→K.findIdx? (fun y=>l.2.getD j 0==y)=some (o.getD j 0).toNat ∧0≤o.getD j 0)→(∀y∈K,∃j:Nat,j<i∧l.2.getD j 0=y)→
  ∃c,F77 l t2 (b,o) (K.length:Int) l (l.2.length:Int) (i:Int)=some (c,o++numF (l.2.drop i) K):=by
 have hlim:=J4
 induction d with
 |zero=>
  intro i K b o hi hKl ho hK hK2;exact⟨b,by rw[F77E,gFo,K8 (by omega)];simp[numF]⟩
 |succ d ih=>
  intro i K b o hi hKl ho hK hK2
  have hlt:i<l.2.length:=by omega
  have e2:=Qin l hl t2 b o (K.length:Int) i hlt ho K hK hK2 l (l.2.length:Int) (i:Int) i 0 (by omega) (fun k hk=>by omega);have e2':F9z l t2 (b,o) (K.length:Int) (i:Int) (l.2.getD i 0) (K.length:Int) 0 l (l.2.length:Int) (i:Int)=_:=e2
  have eg:l.2.getD i 0=l.2[i]:=by simp[K1,hlt]
  have hog:∀(z:Int) (j:Nat),j<i→(o++[z]).getD j 0=o.getD j 0:=fun z j hj=>by rw[K1,Ko (by omega),K1]
  have hoi:∀z:Int,(o++[z]).getD i 0=z:=fun z=>by rw[K1,←ho,List.getElem?_concat_length];rfl
  rw[F77E,gTo,gTo,gTo,Ql,e2',J0,K2 hlt,numF,up1o i,←eg]
  cases h:K.findIdx? (fun y=>l.2.getD i 0==y)with
  |some k=>
   have hk:=findIdx?_lt h
   obtain⟨c,g⟩:=ih (i+1) K (b&&false) (o++[(k:Int)]) (by omega) (by omega) (by simp[ho]) (fun j hj=>by
    by_cases ej:j=i
    ·subst ej;rw[hoi,h];exact⟨rfl,by omega⟩
    ·rw[hog _ j (by omega)]
     exact hK j (by omega)) (fun y hy=>by obtain⟨j,h1,h2⟩:=hK2 y hy;exact⟨j,by omega,h2⟩)
   refine⟨c,?_⟩;simp only;rw[bF (beqF (by omega)),gT (by simp;omega),J1,g];simp
  |none=>
   obtain⟨c,g⟩:=ih (i+1) (K++[l.2.getD i 0]) (b&&false) (o++[(K.length:Int)]) (by omega) (by simp;omega) (by simp[ho]) (fun j hj=>by
    by_cases ej:j=i
    ·subst ej;rw[hoi,findIdx?_new h (by simp)];exact⟨by simp,by omega⟩
    ·rw[hog _ j (by omega)];obtain⟨h1,h2⟩:=hK j (by omega)
     exact⟨findIdx?_more h1,h2⟩) (fun y hy=>by
    rcases Kl.1 hy with hy|hy
    ·obtain⟨j,h1,h2⟩:=hK2 y hy;exact⟨j,by omega,h2⟩
    ·rw[Kn]at hy
     exact⟨i,by omega,hy.symm⟩)
   refine⟨c,?_⟩;simp only
   have e3:i64.wrap ((K.length:Int)+1)=((K++[l.2.getD i 0]).length :Int):=by rw[wr (by omega)];simp
   rw[bT (by simp),gT (by simp;omega),e3,J1,g];simp
theorem Qma(l:DLI)(hl:l.2.length≤100000):∃c,F19 l=some (c,numL l.2):=by
 obtain⟨c,g⟩:=Qim l hl (true,[]) l.2.length 0 [] true [] (by omega) (by simp) rfl (fun j hj=>by omega) (fun y hy=>by cases hy);have g':F77 l (true,[]) (true,[]) 0 l (l.2.length:Int) 0=_:=g;exact⟨c,by rw[F19E,g',J0,Kg,Kt];rfl⟩
def Q43(v some_:List Int):List DSaid:=v.mapIdx fun i k=>(k,if(i:Int)∈some_ then(1:Int)else 0)
def cutL(v some_:List Int):List Int:=numL (Q43 v some_)
def keyS(v some_:List Int):List Int:=v.mapIdx fun i k=>2*k+(if(i:Int)∈some_ then 1 else 0)
def zipL(a b:List Int):List DSaid:=a.mapIdx fun i k=>(k,b.getD i 0)
theorem Q2p(v s:List Int):(Q43 v s).length =v.length:=by simp[Q43]
theorem Q34(v s:List Int):(cutL v s).length =v.length:=by rw[cutL,numL,Q4e,Q2p]
theorem Qgq(v s:List Int):numL (keyS v s)=cutL v s:=by
 refine Qcz 0 (0,0) (keyS v s) (Q43 v s) (by simp[keyS,Q43]) fun i j hi hj=> ?_
 have hi':i<v.length:=by simpa[keyS]using hi
 have hj':j<v.length:=by simpa[keyS]using hj
 have e1:∀k:Nat,k<v.length→(keyS v s).getD k 0=2*v.getD k 0+(if(k:Int)∈s then 1 else 0):=fun k hk=>by
  simp[keyS,K1,hk]
 have e2:∀k:Nat,k<v.length→(Q43 v s).getD k (0,0)=(v.getD k 0,if(k:Int)∈s then 1 else 0):=fun k hk=>by
  simp[Q43,K1,hk]
 rw[e1 i hi',e1 j hj',e2 i hi',e2 j hj',K1w,beq_iff_eq,beq_iff_eq,K6];split<;>split<;>omega
theorem Qfx(s:DLI)(hs:s.2.length≤1048576)(t4:DSight)(v:DSight)(hv:v.2.length≤100000)(hin:∀x∈v.2,0≤x∧x≤1000)(d:Nat):∀(i:Nat) (b:Bool) (o:List Int),i+d=v.2.length→o=(keyS v.2 s.2).take i→
  ∃c,F6e s t4 (b,o) v (v.2.length:Int) (i:Int)=some (c,keyS v.2 s.2):=by
 have hlim:=J4
 have hkl:(keyS v.2 s.2).length =v.2.length:=by simp[keyS]
 induction d with
 |zero=>
  intro i b o hi ho;exact⟨b,by rw[F6eE,gFo,ho,K1d (by omega)]⟩
 |succ d ih=>
  intro i b o hi ho
  have hlt:i<v.2.length:=by omega
  have hx:=hin _ (K4 hlt)
  have hol:o.length=i:=by rw[ho,K1s];omega
  have hk:(keyS v.2 s.2)[i]'(by omega)=2*v.2[i]+(if(i:Int)∈s.2 then 1 else 0):=by simp[keyS]
  have hnext:o++[2*v.2[i]+(if(i:Int)∈s.2 then 1 else 0)]=(keyS v.2 s.2).take (i+1):=by
   rw[K1f (by omega),hk,ho]
  obtain⟨c,g⟩:=ih (i+1) (b&&false) _ (by omega) hnext;refine⟨c,?_⟩;rw[F6eE,gTo,gTo,gTo,J2 v.2 _ i hlt,Qku s _ hs,J0,wr (n:=2*v.2[i]) (by omega),wr (by omega),up1o i]
  by_cases hm:(i:Int)∈s.2
  ·have:(s.2.any fun x=>x==(i:Int))=true:=by rw[Qfs];exact hm
   rw[if_pos hm]at g;rw[this,cond_true,gT (by simp;omega),J1,g]
  ·have:(s.2.any fun x=>x==(i:Int))=false:=by rw[←Bool.not_eq_true,Qfs];exact hm
   rw[if_neg hm,Int.add_zero]at g;rw[this,cond_false,gT (by simp;omega),J1,g]
theorem Qjv(v:DSight)(hv:v.2.length≤100000)(hin:∀x∈v.2,0≤x∧x≤1000)(s:DLI)(hs:s.2.length≤1048576):∃c,F2h v s=some (c,cutL v.2 s.2):=by
 obtain⟨c,g⟩:=Qfx s hs (true,[]) v hv hin v.2.length 0 true [] (by omega) rfl;have g':F6e s (true,[]) (true,[]) v (v.2.length:Int) 0=_:=g;obtain⟨c2,g2⟩:=Qma (c,keyS v.2 s.2) (by simp[keyS];omega);refine⟨c2,?_⟩;rw[F2hE,g',J0];simp only[g2,J0,Qgq]
theorem Qgg(a b:DSight)(hb:a.2.length≤b.2.length)(ha:a.2.length≤100000)(t4:DSight)(d:Nat):∀(i:Nat) (f:Bool) (o:List DSaid),i+d=a.2.length→o=(zipL a.2 b.2).take i→
  ∃c,Fak b t4 (f,o) a (a.2.length:Int) (i:Int)=some (c,zipL a.2 b.2):=by
 have hlim:=J4
 have hkl:(zipL a.2 b.2).length =a.2.length:=by simp[zipL]
 induction d with
 |zero=>
  intro i f o hi ho;exact⟨f,by rw[FakE,gFo,ho,K1d (by omega)]⟩
 |succ d ih=>
  intro i f o hi ho
  have hlt:i<a.2.length:=by omega
  have hol:o.length=i:=by rw[ho,K1s];omega
  have hk:(zipL a.2 b.2)[i]'(by omega)=(a.2[i],b.2.getD i 0):=by simp[zipL]
  have hnext:o++[(a.2[i],b.2.getD i 0)]=(zipL a.2 b.2).take (i+1):=by
   rw[K1f (by omega),hk,ho]
  obtain⟨c,g⟩:=ih (i+1) (f&&false) _ (by omega) hnext;refine⟨c,?_⟩;rw[FakE,gTo,gTo,gTo,gTo,gTo,J2 a.2 _ i hlt,Ql,gT (by simp;omega),up1o i,J1,g]
theorem Qjy(a b:DSight)(hb:a.2.length≤b.2.length)(ha:a.2.length≤100000):∃c,F3h a b=some (c,numL (zipL a.2 b.2)):=by
 obtain⟨c,g⟩:=Qgg a b hb ha (true,[]) a.2.length 0 false [] (by omega) rfl;have g':Fak b (true,[]) (false,[]) a (a.2.length:Int) 0=_:=g;obtain⟨c2,g2⟩:=Qd0 (c,zipL a.2 b.2) (by simp[zipL];omega);refine⟨c2,?_⟩;rw[F3hE,g',J0];simp only[g2,J0]
theorem Qf8(v t4:DSight)(s:DLI)(hs:s.2.length≤1048576)(n:Nat)(hin:∀x∈s.2,0≤x∧x<(n:Int))(d:Nat):∀(i:Nat) (a:List Int),i+d=s.2.length→a.length=n→
  ∃a',F92 v t4 (false,a) s (s.2.length:Int) (i:Int)=some (false,a')∧a'.length=n∧∀k:Nat,k<n→a'.getD k 0=if(k:Int)∈s.2.drop i then 1 else a.getD k 0:=by
 induction d with
 |zero=>
  intro i a hi ha;refine⟨a,by rw[F92E,gFo],ha,fun k hk=> ?_⟩;rw[K8 (by omega),if_neg (by simp)]
 |succ d ih=>
  intro i a hi ha
  have hlt:i<s.2.length:=by omega
  have hx:=hin _ (K4 hlt);obtain⟨m,hm⟩:=Kc hx.1;obtain⟨a',g1,g2,g3⟩:=ih (i+1) (a.set m 1) (by omega) (by rw[Km];exact ha);refine⟨a',?_,g2,fun k hk=> ?_⟩
  ·rw[F92E];simp only[gT (show(i:Int)<(s.2.length:Int) by omega),gT (show(0:Int)≤(i:Int) by omega),J2 s.2 _ i hlt,hm,gT (show(0:Int)≤(m:Int) by omega),gT (show(m:Int)<(a.length:Int) by omega),K3,up1o i,J1]
   have eg:s.2.getD i 0=(m:Int):=by rw[←hm];simp[K1,hlt]
   simp only[eg,K3,gT (show(0:Int)≤(m:Int) by omega),gT (show(m:Int)<(a.length:Int) by omega),g1]
  ·rw[g3 k hk,K2 hlt]
   by_cases hkm:k=m
   ·subst hkm
    have:(a.set k 1).getD k 0=1:=by simp[K1,ha,hk]
    rw[this,if_pos (Kd.2 (.inl hm.symm))];split<;>rfl
   ·have e1:(a.set m 1).getD k 0=a.getD k 0:=by rw[K1,List.getElem?_set_ne (by omega),K1]
    rw[e1]
    by_cases hk2:(k:Int)∈s.2.drop (i+1)
    ·rw[if_pos hk2,if_pos (K9 _ hk2)]
    ·rw[if_neg hk2,if_neg (fun h=>by
      rcases Kd.1 h with h|h
      ·rw[hm]at h;omega
      ·exact hk2 h)]
theorem Qlk(v:DSight)(hv:v.2.length≤100000)(s:DLI)(hs:s.2.length≤1048576)(hin:∀x∈s.2,0≤x∧x<(v.2.length:Int)):∃c,F49 v s=some (c,cutL v.2 s.2):=by
 have hlim:=J4;obtain⟨a,g1,g2,g3⟩:=Qf8 v (true,[]) s hs v.2.length hin s.2.length 0 (List.replicate v.2.length 0) (by omega) (by simp);have g1':F92 v (true,[]) (false,List.replicate v.2.length 0) s (s.2.length:Int) 0=_:=g1;obtain⟨c,e⟩:=Qjy v (false,a) (by simp only;omega) hv
 have hz:zipL v.2 a=Q43 v.2 s.2:=List.ext_getElem (by simp[zipL,Q43]) fun i h1 h2=>by
  have hi:i<v.2.length:=by simpa[zipL]using h1
  have:=g3 i hi;rw[Kg]at this;simp only[zipL,Q43,List.getElem_mapIdx,this]
  have e0:(List.replicate v.2.length (0:Int)).getD i 0=0:=by simp[K1,hi]
  rw[e0]
 refine⟨c,?_⟩;rw[F49E,gTo,gTo,gTo,gTo,K3,g1',J0];simp only[e,J0,hz,cutL]
theorem Qgp{α:Type}[BEq α]{p:DProgram}{v:List Int}(h:Q6 p v=true)(l:List α)(hl:l.length=v.length):Q6 p (numL l)=true:=by
 obtain⟨_,h2,_⟩:=Q2o h;simp only[Q6,K7,decide_eq_true_eq]at h⊢;refine⟨h.1,?_,Qe6 l []⟩;rw[numL,Q4e,hl];exact h.2.1
theorem Q9i{p:DProgram}{v:List Int}(h:Q6 p v=true)(s:List Int):Q6 p (cutL v s)=true:=Qgp h _ (Q2p v s)
theorem Qcf{p:DProgram}{v:DSight}(h:Sees p v.2)(f g:Bool)(s:List Int)(hs:InS p s):∃a b,F2h v (f,s)=some (a,cutL v.2 s)∧F49 v (g,s)=some (b,cutL v.2 s)∧(cutL v.2 s).length ≤1048576:=by
 have hm:=h.manyV;have hms:=Qa h.ok.sml;have hl:=hs.1;obtain⟨a,e1⟩:=Qjv v (by omega) (fun x hx=>by have:=h.inn x hx;omega) (f,s) (by simp only;omega);obtain⟨b,e2⟩:=Qlk v (by omega) (g,s) (by simp only;omega) (fun x hx=>by have:=hs.2 x hx;have:=h.len;simp only at *;omega);exact⟨a,b,e1,e2,by rw[Q34];omega⟩
theorem Qft(b:Bool)(n:Nat)(k:Int)(hl:n≤1048576)(h0:0≤k)(hk:k+n≤4000000000000000000):F7w (b,Q1o k n) k=some (k+n):=by
 rw[F7wE,Q8n b n k hl h0 hk,J0,gFo]
noncomputable def Q46(p:DProgram)(v:List Int)(t:List DNode):List Int:=cutL v (Q7 p t 0 (Q4 p))
theorem Q3d{p:DProgram}{v:List Int}(h:Q6 p v=true)(t:List DNode):Q6 p (Q46 p v t)=true:=Q9i h _
theorem Qco{p:DProgram}{v:List Int}(h:Sees p v)(f:Bool)(t:DLN)(ht:WfN t.2)(hk:(Qb p.1 p.2.1 t.2==2)=true):∃c,F5w p (f,v) t=some (c,Q46 p v t.2):=by
 have hm:=h.manyV;have hl:=Q3e p t.2 0 (Q4 p);have hms:=Qa h.ok.sml;obtain⟨b,e1⟩:=Qbp h.ok.sml t ht (Q8p hk);obtain⟨c,e2⟩:=Qjv (f,v) (by simp only;omega) (fun x hx=>by have:=h.inn x hx;omega) (b,Q7 p t.2 0 (Q4 p)) (by simp only;omega);refine⟨c,?_⟩;rw[F5wE,e1,J0];simp only[e2,J0];rfl
noncomputable def bitK(p:DProgram)(t:List DNode)(i:Nat):DSaid:=(if Qs p t (i:Int)=true then 1 else 0,0)
theorem Qlc{p:DProgram}(h:Ok p)(t:DLN)(ht:WfN t.2)(hk:(Qb p.1 p.2.1 t.2==2)=true)(i:Nat):
  Fx p.1 t (false,Qe p (i:Int))=some (if Qs p t.2 (i:Int)=true then 1 else 0):=by
 have h1:=h.sml.w1;have h2:=h.sml.w2;have h3:=h.sml.v2;have hl:=Q2b h.sml (i:Int);obtain⟨k1,k2,_,k4⟩:=Q42 p.1 (by omega) (false,Qe p (i:Int)) (by simp only;omega) (Q2s h.sml (i:Int)) t ht (by rw[show(((false,Qe p (i:Int)):DLI).2.length :Int)=p.2.1 from hl];exact Q8p hk);have k2':=k2 (by rw[show(((false,Qe p (i:Int)):DLI).2.length :Int)=p.2.1 from hl];exact eq_of_beq hk);have k1':=k1.1;rw[k4];congr 1;unfold Qs Q9u
 by_cases c:valT p.1 (Qe p (i:Int)) t.2=1
 ·rw[if_pos (by rw[beq_iff_eq];exact c)];exact c
 ·rw[if_neg (by rw[beq_iff_eq];exact c)];show valT p.1 (Qe p (i:Int)) t.2=0;have a:0≤valT p.1 (Qe p (i:Int)) t.2:=k1';have b:valT p.1 (Qe p (i:Int)) t.2≤1:=k2';omega
theorem Qdc{p:DProgram}(h:Ok p)(f:Bool)(t:DLN)(ht:WfN t.2)(hk:(Qb p.1 p.2.1 t.2==2)=true)(t4:DSight)(K:List DSaid)(i:Nat)(hi:i<K.length)(h0:K.getD i (0,0)=(0,0))(t25 t26:Int):
  F9x (f,[t]) p t4 (false,K) (i:Int) (false,Qe p (i:Int)) t25 t26 (f,[t]) 1 0=some (false,K.set i (bitK p t.2 i)):=by
 have hv:=Qlc h t ht hk i
 have hend:∀K':List DSaid,F9x (f,[t]) p t4 (false,K') (i:Int) (false,Qe p (i:Int)) t25 t26 (f,[t]) 1 1=some (false,K'):=fun K'=>by
  rw[F9xE,gFo]
 have hbit:∀z:Int,z=0∨z=1→bOr .i64 0 (bShl .i64 (i64.wrap z) 0)=z:=fun z hz=>by
  rcases hz with rfl|rfl<;>decide
 have hz:(if Qs p t.2 (i:Int)=true then(1:Int)else 0)=0∨(if Qs p t.2 (i:Int)=true then(1:Int)else 0)=1:=by
  split
  ·exact .inr rfl
  ·exact .inl rfl
 have eg:([t]:List DLN).getD (toNat 0) (true,[])=t:=rfl;rw[F9xE];simp only[gT (show(0:Int)<1 by omega),gT (show(0:Int)≤0 by omega),K1c,eg,gT (show(0:Int)≤(i:Int) by omega),gT (show(i:Int)<(K.length:Int) by omega),hv,J0,gF (show¬(0:Int)<0 by omega),K3,h0,hbit _ hz,wr (n:=(0:Int)+1) (by omega),show(0:Int)+1=1 by omega,Int.natCast_one];rw[show i64.wrap 1=1 from wr (by omega),hend];rfl
theorem Qdb{p:DProgram}(h:Ok p)(f:Bool)(t:DLN)(ht:WfN t.2)(hk:(Qb p.1 p.2.1 t.2==2)=true)(t4:DSight)(n:Nat)(hn:n=Q4 p)(d:Nat):∀(i:Nat) (K:List DSaid),i+d=n→K=(List.range i).map (bitK p t.2)++List.replicate d (0,0)→
  Fcn (f,[t]) p t4 (false,K) (n:Int) (i:Int)=some (false,(List.range n).map (bitK p t.2)):=by
 have hms:=Qa h.sml
 induction d with
 |zero=>
  intro i K hi hK
  obtain rfl:i=n:=by omega
  rw[FcnE,gFo,hK];simp
 |succ d ih=>
  intro i K hi hK
  have hKl:K.length=n:=by rw[hK];simp;omega
  have h0:K.getD i (0,0)=(0,0):=by
   rw[hK,K1,Ks (by simp)];simp[K21]
  have e2:=Qdc h f t ht hk t4 K i (by omega) h0 (n:Int) (i:Int)
  have hset:K.set i (bitK p t.2 i)=(List.range (i+1)).map (bitK p t.2)++List.replicate d (0,0):=by
   rw[hK,List.range_succ,List.map_append,List.set_append_right _ _ (by simp)];simp[List.replicate_succ]
  rw[FcnE,gTo,Q70 h.sml _ (by omega),J0];simp only[K1c,Int.natCast_one,e2,J0,up1o i,J1];rw[hset];exact ih (i+1) _ (by omega) rfl
theorem Qk9{p:DProgram}(h:Ok p)(hs:Q18 p=true)(f:Bool)(t:DLN)(ht:WfN t.2)(hk:(Qb p.1 p.2.1 t.2==2)=true):∃c,F1t p (f,[t])=some ((c,numL ((List.range (Q4 p)).map (bitK p t.2))),true):=by
 have hlim:=J4;have hms:=Qa h.sml
 have e0:(Q3n p [t.2])=true:=by
  simp only[Q3n,K1c,List.all_cons,List.all_nil,hk,Bool.and_true];rfl
 have e1:=Qdb h f t ht hk (true,[]) (Q4 p) rfl (Q4 p) 0 (List.replicate (Q4 p) (0,0)) (by omega) (by simp);have e1':Fcn (f,[t]) p (true,[]) (false,List.replicate (Q4 p) (0,0)) (Q4 p:Int) 0=_:=e1;obtain⟨c,e2⟩:=Qd0 (false,(List.range (Q4 p)).map (bitK p t.2)) (by simp;omega);refine⟨c,?_⟩;rw[F1tE,Q5f p h.sm,J0,hs,K5,cond_false,Qcc,J0];simp only[K1c,K12,List.map_nil,e0];rw[show(decide (((1:Nat):Int)≥0)&&true)=true from rfl,K5,cond_false,Q1e h.sml,J0,gTo,gTo,gTo,gTo,K3];simp only[Kv,e1',J0,e2]
theorem Qka{p:DProgram}{v:List Int}(hg:Q6 p v=true)(h:Sees p v)(hs:Q18 p=true)(f:Bool)(t:DLN)(ht:WfN t.2)(hk:(Qb p.1 p.2.1 t.2==2)=true):∃c,F85 p (f,v) t=some ((c,Q46 p v t.2),true):=by
 have hm:=h.manyV;obtain⟨c1,e1⟩:=Qk9 h.ok hs false t ht hk;have e2:=Q7i p h.ok.sm (f,v) (by simp only;omega)
 have hlen:(numL ((List.range (Q4 p)).map (bitK p t.2))).length =v.length:=by rw[numL,Q4e,h.len];simp
 obtain⟨c2,e3⟩:=Qjy (f,v) (c1,numL ((List.range (Q4 p)).map (bitK p t.2))) (by simp only;omega) (by simp only;omega);refine⟨c2,?_⟩
 have hsame:numL (zipL v (numL ((List.range (Q4 p)).map (bitK p t.2))))=Q46 p v t.2:=by
  refine Qcz (0,0) (0,0) _ (Q43 v (Q7 p t.2 0 (Q4 p))) (by simp[zipL,Q43]) fun i j hi hj=> ?_
  have hi':i<v.length:=by simpa[zipL]using hi
  have hj':j<v.length:=by simpa[zipL]using hj
  have hlv:=h.len
  have a1:∀k:Nat,k<v.length→(zipL v (numL ((List.range (Q4 p)).map (bitK p t.2)))).getD k (0,0)=(v.getD k 0,(numL ((List.range (Q4 p)).map (bitK p t.2))).getD k 0):=fun k hk=>by
   simp[zipL,K1,hk]
  have a2:∀k:Nat,k<v.length→(Q43 v (Q7 p t.2 0 (Q4 p))).getD k (0,0)=(v.getD k 0,if Qs p t.2 (k:Int)=true then 1 else 0):=fun k hk=>by
   have:((k:Int)∈Q7 p t.2 0 (Q4 p))=(Qs p t.2 (k:Int)=true):=propext ⟨fun h=>(Q2d.1 h).2,fun h=>Q2d.2 ⟨⟨by omega,by omega⟩,h⟩⟩;simp only[Q43,K1,List.getElem?_mapIdx,Ka hk,Option.map_some,Option.getD_some,this]
  have a3:=Qgo ((List.range (Q4 p)).map (bitK p t.2)) i j (by simp;omega) (by simp;omega);simp only[List.getElem_map,List.getElem_range]at a3;rw[a1 i hi',a1 j hj',a2 i hi',a2 j hj',K1w,beq_iff_eq,beq_iff_eq,K6,K6,a3];simp only[bitK,K6,and_true]
 rw[F85E,e1,J0];simp only[K5,cond_false,e2,J0,hg,e3,hsame]
noncomputable def Q11(p:DProgram)(v:List Int)(l:List DLN):List Int:=l.foldl (fun v t=>Q46 p v t.2) v
theorem Q5t{p:DProgram}(l:List DLN):∀v:List Int,Q6 p v=true→Q6 p (Q11 p v l)=true:=by
 induction l with
 |nil=>intro v h;exact h
 |cons t l ih=>intro v h;exact ih _ (Q3d h t.2)
theorem Qik{p:DProgram}(h:Ok p)(t4:DSight)(l:DRN)(hl:l.2.length≤1048576)(ht:∀t∈l.2,WfN t.2∧(Qb p.1 p.2.1 t.2==2)=true)(d:Nat):∀(i:Nat) (f:Bool) (v:List Int),i+d=l.2.length→Q6 p v=true→
  ∃c,F9d p t4 (f,v) l (l.2.length:Int) (i:Int)=some (c,Q11 p v (l.2.drop i)):=by
 induction d with
 |zero=>
  intro i f v hi hv;exact⟨f,by rw[F9dE,gFo,K8 (by omega)];rfl⟩
 |succ d ih=>
  intro i f v hi hv
  have hlt:i<l.2.length:=by omega
  obtain⟨q1,q2⟩:=ht _ (K4 hlt);obtain⟨c1,e1⟩:=Qco (Q65 hv h.sm h.wf) f l.2[i] q1 q2;obtain⟨c,g⟩:=ih (i+1) c1 _ (by omega) (Q3d hv l.2[i].2);refine⟨c,?_⟩;rw[F9dE,gTo,gTo,gTo,J2 l.2 _ i hlt,up1o i,K2 hlt];simp only[e1,J0,J1,g];rfl
theorem Qfz{q:DQuestion}(h:Ok q.1)(t4:DSight)(l:DRN)(hl:l.2.length≤1048576)(ht:∀t∈l.2,WfN t.2∧(Qb q.1.1 q.1.2.1 t.2==2)=true)(d:Nat):∀(i:Nat) (f:Bool) (v:List Int),i+d=l.2.length→Q6 q.1 v=true→
  ∃c,Fcb q t4 (f,v) l (l.2.length:Int) (i:Int)=some (c,Q11 q.1 v (l.2.drop i)):=by
 induction d with
 |zero=>
  intro i f v hi hv;exact⟨f,by rw[FcbE,gFo,K8 (by omega)];rfl⟩
 |succ d ih=>
  intro i f v hi hv
  have hlt:i<l.2.length:=by omega
  obtain⟨q1,q2⟩:=ht _ (K4 hlt);obtain⟨c1,e1⟩:=Qco (Q65 hv h.sm h.wf) f l.2[i] q1 q2;obtain⟨c,g⟩:=ih (i+1) c1 _ (by omega) (Q3d hv l.2[i].2);refine⟨c,?_⟩;rw[FcbE,gTo,gTo,gTo,J2 l.2 _ i hlt,up1o i,K2 hlt];simp only[e1,J0,J1,g];rfl
theorem Qeb{p:DProgram}(h:Ok p)(hs:Q18 p=true)(t4:DSight)(l:DRN)(hl:l.2.length≤1048576)(ht:∀t∈l.2,WfN t.2∧(Qb p.1 p.2.1 t.2==2)=true)(d:Nat):∀(i:Nat) (f:Bool) (v:List Int),i+d=l.2.length→Q6 p v=true→
  ∃c,Fcf p t4 (f,v) l (l.2.length:Int) (i:Int)=some (c,Q11 p v (l.2.drop i)):=by
 induction d with
 |zero=>
  intro i f v hi hv;exact⟨f,by rw[FcfE,gFo,K8 (by omega)];rfl⟩
 |succ d ih=>
  intro i f v hi hv
  have hlt:i<l.2.length:=by omega
  obtain⟨q1,q2⟩:=ht _ (K4 hlt);obtain⟨c1,e1⟩:=Qka hv (Q65 hv h.sm h.wf) hs f l.2[i] q1 q2;obtain⟨c,g⟩:=ih (i+1) c1 _ (by omega) (Q3d hv l.2[i].2);refine⟨c,?_⟩;rw[FcfE,gTo,gTo,gTo,J2 l.2 _ i hlt,up1o i,K2 hlt];simp only[e1,J0,J1,g];rfl
def Q1t(p:DProgram):List Int:=List.replicate (Q4 p) 0
theorem Qc1(n:Nat):Q2l 1 (List.replicate n 0)=true:=by
 induction n with
 |zero=>rfl
 |succ n ih=>rw[List.replicate_succ,Q2l,decide_eq_true (by omega),Ky,if_neg (by omega)];exact ih
theorem Q3f{p:DProgram}(hs:Q18 p=true):Q6 p (Q1t p)=true:=by
 have hms:=Qa (Qc9 hs);simp only[Q6,K7,decide_eq_true_eq];refine⟨hs,by simp[Q1t],?_⟩;obtain⟨n,hn⟩:∃n,Q4 p=n+1:=⟨Q4 p-1,by omega⟩;rw[Q1t,hn,List.replicate_succ,Q2l,decide_eq_true (by omega),Ky,if_pos rfl];exact Qc1 n
theorem Qm9{p:DProgram}(h:Ok p)(hs:Q18 p=true)(l:DRN)(hl:l.2.length≤1048576)(ht:∀t∈l.2,WfN t.2∧(Qb p.1 p.2.1 t.2==2)=true):∃c,F3k p l=some (c,Q11 p (Q1t p) l.2):=by
 have hlim:=J4;have hms:=Qa h.sml;obtain⟨c,g⟩:=Qik h (true,[]) l hl ht l.2.length 0 false (Q1t p) (by omega) (Q3f hs);have g':F9d p (true,[]) (false,List.replicate (Q4 p) 0) l (l.2.length:Int) 0=_:=g;refine⟨c,?_⟩;rw[F3kE,Qa3 h.sml,J0,gTo,gTo,gTo,gTo,K3,g',J0,Kg]
theorem Ql7{p:DProgram}(h:Ok p)(hs:Q18 p=true)(l:DRN)(hl:l.2.length≤1048576)(ht:∀t∈l.2,WfN t.2∧(Qb p.1 p.2.1 t.2==2)=true):∃c,F4h p l=some (c,Q11 p (Q1t p) l.2):=by
 have hlim:=J4;have hms:=Qa h.sml;obtain⟨c,g⟩:=Qeb h hs (true,[]) l hl ht l.2.length 0 false (Q1t p) (by omega) (Q3f hs);have g':Fcf p (true,[]) (false,List.replicate (Q4 p) 0) l (l.2.length:Int) 0=_:=g;refine⟨c,?_⟩;rw[F4hE,Q1e h.sml,J0,gTo,gTo,gTo,gTo,K3,g',J0,Kg]
theorem Q92{p:DProgram}(hp:Sml p)(loop:DLI)(hl:loop.2.length≤28000)(d:Nat):∀(i:Nat) (b:Bool) (out:List Int),i+d=Q4 p+1→out.length≤28000+28000*i→
  ∃b',F9k loop p (b,out) (i:Int)=some (b',out++(List.replicate d loop.2).flatten):=by
 have hm:=Qa hp;have hlim:=J4
 induction d with
 |zero=>
  intro i b out hi ho;rw[F9kE,Qa3 hp,J0,gFo];exact⟨b,by simp⟩
 |succ d ih=>
  intro i b out hi ho;obtain⟨b',g⟩:=ih (i+1) (b&&loop.2.isEmpty) (out++loop.2) (by omega) (by rw[Kf];omega);rw[F9kE,Qa3 hp,J0,gTo,gTs,up1o i,J1,g];exact⟨b',by rw[List.replicate_succ,List.flatten_cons,Kj]⟩
def Q1c(p:DProgram)(stem loop:List Int):List Int:=stem++(List.replicate (Q4 p+1) loop).flatten
theorem Q3b{p:DProgram}(hp:Sml p)(stem loop:List Int)(h1:stem.length≤28000)(h2:loop.length≤28000):(Q1c p stem loop).length ≤952000:=by
 have hm:=Qa hp;have h3:(Q4 p+1)*loop.length≤33*28000:=Nat.mul_le_mul (by omega) h2;simp only[Q1c,Kf,List.length_flatten,List.map_replicate,List.sum_replicate_nat];omega
theorem Qcq{p:DProgram}(hp:Sml p)(stem loop:DLI)(h1:stem.2.length≤28000)(h2:loop.2.length≤28000):∃b,F37 p stem loop=some (b,Q1c p stem.2 loop.2):=by
 have hlim:=J4;obtain⟨b,g⟩:=Q92 hp loop h2 (Q4 p+1) 0 false stem.2 (by omega) (by omega);have g':F9k loop p (false,stem.2) 0=_:=g;rw[F37E,F58E,gT (by simp;omega),J0,Kt,g',J0];exact⟨b,rfl⟩
theorem Qjr{p:DProgram}(hp:Sml p)(stem loop:DLI)(h1:stem.2.length≤28000)(h2:loop.2.length≤28000)(h3:0<loop.2.length):∃b,F60 p stem loop=some (b,Q1c p stem.2 loop.2):=by
 have hm:=Qa hp;have hr:=Q3b hp stem.2 loop.2 h1 h2
 obtain⟨b,e⟩:=Qf6 (false,[stem,(false,(List.replicate (Q4 p+1) loop.2).flatten)]) (by
  simp only[Q1c,Kf]at hr;simp only[K12,List.map_nil,List.sum_cons,List.sum_nil]
  omega) (by simp)
 rw[F60E,Q1e hp,J0,up1o _,Q80 loop (Q4 p+1) h3 (by omega) (by omega) (by omega) (by have:(Q4 p+1)*loop.2.length≤33*28000:=Nat.mul_le_mul (by omega) h2;omega),J0,e,J0];exact⟨b,by simp[Q1c]⟩
theorem Qfr(n:Nat)(h:n≤1099511627776):∃b,F7j (n:Int)=some (b,[]):=by
 have hlim:=J4
 have e:i64.wrap ((n:Int)-i64.wrap (0-0))=(n:Int):=by
  rw[show i64.wrap (0-0)=0 from wr (by omega),wr (by omega)];omega
 rw[F7jE,e,gFo]
 by_cases h0:n=0
 ·rw[gFo];exact⟨_,rfl⟩
 ·rw[gTo,gTo,gTo,gT (by simp;omega),gTo];exact⟨_,rfl⟩
theorem Q7c(s l:Bool×List DRN)(d:Nat):∀(i k:Nat),i+d=l.2.length→k+((l.2.drop i).map fun x=>x.2.length).sum ≤1099511627776→l.2.length≤1099511627776→
  F9y s (k:Int) l (l.2.length:Int) (i:Int)=some ((k+((l.2.drop i).map fun x=>x.2.length).sum :Nat):Int):=by
 induction d with
 |zero=>
  intro i k hi hk hl;rw[F9yE,gFo,K8 (by omega)];rfl
 |succ d ih=>
  intro i k hi hk hl
  have hlt:i<l.2.length:=by omega
  rw[K2 hlt]at hk⊢;simp only[K12,List.sum_cons]at hk⊢;rw[F9yE,gTo,gTo,gTo,J2 l.2 _ i hlt,show(k:Int)+(l.2[i].2.length :Int)=((k+l.2[i].2.length :Nat):Int) by omega,wr (by omega),gFo,up1o i,J1,ih (i+1) _ (by omega) (by omega) hl];congr 2;omega
theorem Q7d(l:Bool×List DRN)(d:Nat):∀(i:Nat) (b:Bool) (out:List DLN),i+d=l.2.length→out.length+((l.2.drop i).map fun x=>x.2.length).sum ≤1099511627776→l.2.length≤1099511627776→
  ∃b',F9g (b,out) l (l.2.length:Int) (i:Int)=some (b',out++((l.2.drop i).map fun x=>x.2).flatten):=by
 have hlim:=J4
 induction d with
 |zero=>
  intro i b out hi hk hl;rw[F9gE,gFo,K8 (by omega)];exact⟨b,by simp⟩
 |succ d ih=>
  intro i b out hi hk hl
  have hlt:i<l.2.length:=by omega
  rw[K2 hlt]at hk⊢;simp only[K12,List.sum_cons,List.flatten_cons]at hk⊢;rw[F9gE,gTo,gTo,gTo,J2 l.2 _ i hlt,gTs,up1o i,J1];obtain⟨b',g⟩:=ih (i+1) (b&&l.2[i].2.isEmpty) (out++l.2[i].2) (by omega) (by rw[Kf];omega) hl;exact⟨b',by rw[g];simp⟩
theorem Qb1(l:Bool×List DRN)(h:(l.2.map fun x=>x.2.length).sum ≤1099511627776)(hl:l.2.length≤1099511627776):∃b,F1v l=some (b,(l.2.map fun x=>x.2).flatten):=by
 have h0:=Q7c l l l.2.length 0 0 (by omega) (by simpa using h) hl;rw[Kg,K1o]at h0;have h0':F9y l 0 l (l.2.length:Int) 0=_:=h0;obtain⟨b1,h1⟩:=Qfr _ h;obtain⟨b2,h2⟩:=Q7d l l.2.length 0 b1 [] (by omega) (by simpa using h) hl;rw[Kg,Kt]at h2;have h2':F9g (b1,[]) l (l.2.length:Int) 0=_:=h2;exact⟨b2,by rw[F1vE,h0',J0,h1,J0,h2',J0]⟩
theorem Q94(p:DProgram)(t:List DNode)(n:Nat):Qu (Q7 p t 0 n):=by
 refine List.Pairwise.filter _ ?_;rw[List.pairwise_map];exact(List.pairwise_lt_range' (s:=0) (n:=n)).imp (fun h=>Int.ofNat_lt.2 h)
noncomputable def Q29(p:DProgram)(c:List Int)(s:Int):Bool:=(Qd p s).any fun x=>c.any fun y=>y==x
noncomputable def canL(p:DProgram):List (List Int)→List (List Int)
 |[]=>[]
 |l::A=>(match canL p A with
  |[]=>l
  |c::_=>l.filter (Q29 p c))::canL p A
theorem Q1w(p:DProgram)(A:List (List Int)):(canL p A).length =A.length:=by
 induction A with
 |nil=>rfl
 |cons l A ih=>simp[canL,ih]
theorem Q3k{p:DProgram}{l c:List Int}{A C:List (List Int)}(h:canL p A=c::C):canL p (l::A)=l.filter (Q29 p c)::c::C:=by
 simp only[canL,h]
noncomputable def Q7k(p:DProgram):Int→List (List Int)→List Int
 |_,[]=>[]
 |s,c::C=>((Qd p s).find? fun x=>c.any fun y=>y==x).getD 0::Q7k p (((Qd p s).find? fun x=>c.any fun y=>y==x).getD 0) C
theorem Qar(p:DProgram)(C:List (List Int)):∀s,(Q7k p s C).length =C.length:=by
 induction C with
 |nil=>intro s;rfl
 |cons c C ih=>intro s;simp[Q7k,ih]
noncomputable def Q6v(p:DProgram)(A:List (List Int)):List Int:=match canL p A with
 |[]=>[]
 |c::C=>c.getD 0 0::Q7k p (c.getD 0 0) C
theorem Qad(p:DProgram)(A:List (List Int)):(Q6v p A).length =A.length:=by
 have h:=Q1w p A;unfold Q6v;split
 ·rename_i e;rw[e]at h;exact h
 ·rename_i c C e;rw[e]at h;rw[←h,Kq,Kq,Qar]
def Goes(p:DProgram):Int→List (List Int)→Prop
 |_,[]=>True
 |s,c::C=>Q29 p c s=true∧∀t∈c,Goes p t C
theorem Q9d(p:DProgram)(A:List (List Int)):∀c C,canL p A=c::C→∀s∈c,Goes p s C:=by
 induction A with
 |nil=>intro c C h;cases h
 |cons l A ih=>
  intro c C h s hs
  cases hA:canL p A with
  |nil=>
   simp only[canL,hA,K10]at h;rw[←h.2];trivial
  |cons d D=>
   rw[Q3k hA,K10]at h;obtain⟨rfl,rfl⟩:=h;exact⟨(K1e.1 hs).2,fun t ht=>ih d D hA t ht⟩
def Q99(p:DProgram):List (List Int)→Prop
 |[]=>True
 |l::A=>(∀m∈A.head?,∀t∈m,∃s∈l,t∈Qd p s)∧Q99 p A
theorem Q9e{p:DProgram}(A:List (List Int)):∀l,(∀m∈l::A,m≠[])→Q99 p (l::A)→∃c C,canL p (l::A)=c::C∧c≠[]∧∀x∈c,x∈l:=by
 induction A with
 |nil=>intro l h _;exact⟨l,[],rfl,h l (by simp),fun x hx=>hx⟩
 |cons m A ih=>
  intro l h hL;obtain⟨c,C,e,h1,h2⟩:=ih m (fun x hx=>h x (K9 _ hx)) hL.2;refine⟨_,_,Q3k e,?_,fun x hx=>(K1e.1 hx).1⟩;obtain⟨t,ht⟩:=List.exists_mem_of_ne_nil _ h1;obtain⟨s,hs,hts⟩:=hL.1 m rfl t (h2 t ht);have:s∈l.filter (Q29 p c):=K1e.2 ⟨hs,Ku.2 ⟨t,hts,Ku.2 ⟨t,ht,by simp⟩⟩⟩;intro hn;rw[hn]at this;cases this
theorem Q4n{p:DProgram}{Q:List Int→Prop}(hQ:∀l q,Q l→Q (l.filter q))(A:List (List Int))(h:∀l∈A,Q l):∀c∈canL p A,Q c:=by
 induction A with
 |nil=>intro c hc;cases hc
 |cons l A ih=>
  intro c hc
  have ih':=ih fun m hm=>h m (K9 _ hm)
  cases hA:canL p A with
  |nil=>
   simp only[canL,hA,Kn]at hc;subst hc;exact h c (by simp)
  |cons d D=>
   rw[Q3k hA]at hc
   rcases Kd.1 hc with rfl|hc
   ·exact hQ _ _ (h l (by simp))
   ·exact ih' c (by rw[hA];exact hc)
theorem Q88{p:DProgram}(v:List Int)(path:List Int):∀now,Q99 p (Qx p v now path):=by
 induction path with
 |nil=>intro now;trivial
 |cons c path ih=>
  intro now;refine⟨fun m hm t ht=> ?_,ih _⟩
  cases path with
  |nil=>cases hm
  |cons c2 path=>
   simp only[Qx,List.head?_cons,Option.mem_some_iff]at hm;subst hm;have h1:=(K1e.1 ht).1;rw[Qm,List.mem_flatMap]at h1;exact h1
theorem Q89(p:DProgram)(v:List Int)(path:List Int):∀now,Qu now→∀l∈Qx p v now path,Qu l:=by
 induction path with
 |nil=>intro now _ l hl;cases hl
 |cons c path ih=>
  intro now hn l hl
  rcases Kd.1 hl with rfl|hl
  ·exact List.Pairwise.filter _ hn
  ·exact ih _ (Qk _) l hl
theorem Q3p{a:List Int}(ha:Qu a)(q:Int→Bool){x:Int}(h:a.find? q=some x):x∈a∧q x=true∧∀y∈a,q y=true→x≤y:=by
 induction a with
 |nil=>cases h
 |cons b a ih=>
  rw[List.find?_cons]at h;have hp:=List.pairwise_cons.1 ha
  cases hq:q b with
  |true=>
   rw[hq]at h;obtain rfl:=Option.some.inj h;refine⟨by simp,hq,fun y hy _=> ?_⟩
   rcases Kd.1 hy with rfl|hy
   ·exact Int.le_refl _
   ·exact Int.le_of_lt (hp.1 y hy)
  |false=>
   rw[hq]at h;obtain⟨h1,h2,h3⟩:=ih hp.2 h;refine⟨K9 _ h1,h2,fun y hy hqy=> ?_⟩
   rcases Kd.1 hy with rfl|hy
   ·rw[hq]at hqy;cases hqy
   ·exact h3 y hy hqy
theorem Qfk{a c:List Int}(ha:Qu a)(hc:Qu c):(c.find? fun x=>a.any fun y=>x==y)=a.find? fun x=>c.any fun y=>y==x:=by
 have mem:∀{q:Int→Bool} {l:List Int} {z:Int},z∈l→q z=true→∃x,l.find? q=some x:=fun{q l z} h1 h2=>by
  cases h:l.find? q with
  |some x=>exact⟨x,rfl⟩
  |none=>
   have:=List.find?_eq_none.1 h z h1;exact absurd h2 this
 cases h:c.find? fun x=>a.any fun y=>x==y with
 |some x=>
  obtain⟨h1,h2,h3⟩:=Q3p hc _ h;obtain⟨y,hy,hxy⟩:=Ku.1 h2
  have e:x=y:=by simpa using hxy
  subst e;obtain⟨z,hz⟩:=mem (q:=fun x=>c.any fun y=>y==x) hy (Ku.2 ⟨x,h1,by simp⟩);obtain⟨g1,g2,g3⟩:=Q3p ha _ hz;obtain⟨w,hw,hwz⟩:=Ku.1 g2
  have e:w=z:=by simpa using hwz
  subst e;have a1:=h3 w hw (Ku.2 ⟨w,g1,by simp⟩);have a2:=g3 x hy (Ku.2 ⟨x,h1,by simp⟩);rw[hz];congr 1;omega
 |none=>
  cases hz:a.find? fun x=>c.any fun y=>y==x with
  |none=>rfl
  |some z=>
   obtain⟨g1,g2,g3⟩:=Q3p ha _ hz;obtain⟨w,hw,hwz⟩:=Ku.1 g2
   have e:w=z:=by simpa using hwz
   subst e;have:=List.find?_eq_none.1 h w hw;exact absurd (Ku.2 ⟨w,g1,by simp⟩) this
theorem Q72{p:DProgram}{c:List Int}{s:Int}(h:Q29 p c s=true):∃t,((Qd p s).find? fun x=>c.any fun y=>y==x)=some t∧t∈Qd p s∧t∈c:=by
 obtain⟨t,ht,h2⟩:=Ku.1 h
 cases h3:(Qd p s).find? fun x=>c.any fun y=>y==x with
 |none=>exact absurd h2 (List.find?_eq_none.1 h3 t ht)
 |some x=>
  obtain⟨h4,h5,_⟩:=Q3p (Q3m p s) _ h3;obtain⟨w,hw,hwx⟩:=Ku.1 h5
  have e:w=x:=by simpa using hwx
  subst e;exact⟨w,rfl,h4,hw⟩
theorem Ql1{p:DProgram}(hok:Ok p)(along can:DRI)(k:Nat)(hk:k<1000000)(b:Bool)(c:List Int)(hc:(can.2.getD (k+1) (true,[]))=(b,c))(hkc:k+1<can.2.length)(hcl:c.length≤1048576)(l:DLI)(hl:InS p l.2)(d:Nat):∀(i:Nat) (o:List Int),i+d=l.2.length→o.length≤i→
  F6m along p can (k:Int) (o.isEmpty,o) l (l.2.length:Int) (i:Int)=some ((o++(l.2.drop i).filter (Q29 p c)).isEmpty,o++(l.2.drop i).filter (Q29 p c)):=by
 have hlim:=J4;have hms:=Qa hok.sml;have hl1:=hl.1
 induction d with
 |zero=>
  intro i o hi ho;rw[F6mE,gFo,K8 (by omega)];simp
 |succ d ih=>
  intro i o hi ho
  have hlt:i<l.2.length:=by omega
  have hx:=hl.2 _ (K4 hlt);obtain⟨b1,e1⟩:=Qg5 hok (l.2[i]) (by omega);have hnl:=Qv hok hx;have e2:=Qly (b1,Qd p l.2[i]) (b,c) (by simp only;omega) hcl;rw[F6mE,gTo,gTo,gTo,J2 l.2 _ i hlt,e1,J0,up1o k,gTo,gTo,K3,hc,e2,J0,up1o i,K2 hlt,K1n];have ed:((Qd p l.2[i]).any fun x=>c.any fun y=>y==x)=Q29 p c l.2[i]:=rfl;simp only[ed]
  cases hh:Q29 p c l.2[i]with
  |true=>
   have e:=ih (i+1) (o++[l.2[i]]) (by omega) (by simp;omega)
   have e0:(o++[l.2[i]]).isEmpty =false:=by simp
   rw[e0]at e;rw[cond_true,gT (by simp;omega),J1,K26,e];simp
  |false=>
   rw[cond_false,J1,ih (i+1) o (by omega) (by omega)];simp
def mkR(g:List Int→Bool)(A:List (List Int)):List DLI:=A.map fun l=>(g l,l)
theorem Qq(g:List Int→Bool)(A:List (List Int)):(mkR g A).length =A.length:=by simp[mkR]
theorem Q7x(g:List Int→Bool)(A:List (List Int)){k:Nat}(h:k<A.length):(mkR g A).getD k (true,[])=(g A[k],A[k]):=by simp[mkR,K1,h]
theorem Qgk(g:List Int→Bool)(A:List (List Int))(k:Nat)(l:List Int):(mkR g A).set k (g l,l)=mkR g (A.set k l):=by simp[mkR,List.map_set]
theorem Qce{p:DProgram}(A:List (List Int))(n:Nat)(h:n+1<A.length):∃c C,canL p (A.drop (n+1))=c::C∧(A.take (n+1)++canL p (A.drop (n+1)))[n+1]? =some c∧(A.take (n+1)++canL p (A.drop (n+1)))[n]? =some A[n]∧(A.take (n+1)++canL p (A.drop (n+1))).set n (A[n].filter (Q29 p c))=A.take n++canL p (A.drop n):=by
 have hl:=Q1w p (A.drop (n+1))
 cases e:canL p (A.drop (n+1))with
 |nil=>rw[e,K29,K1m]at hl;omega
 |cons c C=>
  have ht:(A.take (n+1)).length =n+1:=by rw[K1s];omega
  refine⟨c,C,rfl,?_,?_,?_⟩
  ·rw[Ks (by omega),ht,Nat.sub_self];rfl
  ·rw[Ko (by omega),K2c (by omega),Ka (by omega)]
  ·have e2:A.take (n+1)=A.take n++[A[n]]:=K1f (by omega);have e3:A.drop n=A[n]::A.drop (n+1):=K2 (by omega);rw[e2,e3,Q3k e,Kj,List.set_append_right _ _ (by rw[K1s];omega)]
   have:n-(A.take n).length =0:=by rw[K1s];omega
   rw[this];rfl
theorem Ql0{p:DProgram}(hok:Ok p)(b b2:Bool)(A:List (List Int))(hA:∀l∈A,InS p l)(hl:A.length≤1000000)(n:Nat):n+1≤A.length→
  Fbg (b2,mkR List.isEmpty A) p (b,mkR List.isEmpty (A.take n++canL p (A.drop n))) ((n:Int)-1)=some (b,mkR List.isEmpty (canL p A)):=by
 have hm:=Qa hok.sml
 induction n with
 |zero=>
  intro _;rw[FbgE,gFo];rfl
 |succ n ih=>
  intro hn;obtain⟨c,C,e1,e2,e3,e4⟩:=Qce (p:=p) A n (by omega)
  have hlen:(A.take (n+1)++canL p (A.drop (n+1))).length =A.length:=by rw[Kf,Q1w,K1s,K29];omega
  have hcI:InS p c:=Q4n (p:=p) (Q:=InS p) (fun l q h=>h.filter q) (A.drop (n+1)) (fun l hl=>hA l (List.mem_of_mem_drop hl)) c (by rw[e1];simp);have hrow:InS p A[n]:=hA _ (K4 _);obtain⟨h2,e2'⟩:=Kb.1 e2
  have hat:(mkR List.isEmpty (A.take (n+1)++canL p (A.drop (n+1)))).getD (n+1) (true,[])=(c.isEmpty,c):=by rw[Q7x _ _ h2,e2']
  have e5:=Ql1 hok (b2,mkR List.isEmpty A) (b,mkR List.isEmpty (A.take (n+1)++canL p (A.drop (n+1)))) n (by omega) c.isEmpty c hat (by rw[Qq];exact h2) (by have:=hcI.1;omega) (A[n].isEmpty,A[n]) hrow A[n].length 0 [] (by simp) (by simp);have e5':F6m (b2,mkR List.isEmpty A) p (b,mkR List.isEmpty (A.take (n+1)++canL p (A.drop (n+1)))) (n:Int) (true,[]) (A[n].isEmpty,A[n]) (A[n].length :Int) 0=_:=e5
  have ek:((n+1:Nat):Int)-1=(n:Int):=by omega
  rw[FbgE,ek,gTo,gTo,gT (by simp only[Qq];omega)];simp only[K3,Q7x List.isEmpty A (show n<A.length by omega),e5',J0,Kt,Kg];rw[gTo,gT (by rw[Qq];omega),Qgk,e4,wr (by omega),J1,ih (by omega)]
theorem Ql3{p:DProgram}(can:DRI)(k:Nat)(hk:k<can.2.length)(b:Bool)(c:List Int)(hc:can.2.getD k (true,[])=(b,c))(hcl:c.length≤1048576)(out:List Int)(hout:out.length≤1000000)(l:DLI)(hl:l.2.length≤1048576)(t:Int)(d:Nat):∀(i:Nat),i+d=l.2.length→((l.2.drop i).find? fun x=>c.any fun y=>y==x)=some t→
  Fb5 p can (false,out) (k:Int) l (l.2.length:Int) (i:Int)=some (false,out++[t]):=by
 have hlim:=J4
 induction d with
 |zero=>
  intro i hi hf;rw[K8 (by omega)]at hf;cases hf
 |succ d ih=>
  intro i hi hf
  have hlt:i<l.2.length:=by omega
  rw[K2 hlt,List.find?_cons]at hf;rw[Fb5E,gTo,gTo,gTo,J2 l.2 _ i hlt,gTo,gTo,K3,hc,Qku _ _ hcl,J0,up1o i];simp only
  cases hh:c.any fun y=>y==l.2[i]with
  |true=>
   rw[hh]at hf;obtain rfl:=Option.some.inj hf;rw[cond_true,gT (by simp;omega),K26]
  |false=>
   rw[hh]at hf;rw[cond_false,J1,ih (i+1) (by omega) hf]
theorem Ql2{p:DProgram}(hok:Ok p)(b:Bool)(D:List (List Int))(hD:∀l∈D,InS p l)(hl:D.length≤1000000)(d:Nat):∀(k:Nat) (o:List Int) (s:Int),k+d=D.length→o.length+1=k→(0≤s∧s<(Q4 p:Int))→Goes p s (D.drop k)→
  F9p p (b,mkR List.isEmpty D) (false,o++[s]) (k:Int)=some (false,o++s::Q7k p s (D.drop k)):=by
 have hm:=Qa hok.sml
 induction d with
 |zero=>
  intro k o s hk ho hs hg;rw[F9pE,gF (by simp only[Qq];omega),K8 (by omega)];rfl
 |succ d ih=>
  intro k o s hk ho hs hg
  have hlt:k<D.length:=by omega
  have e0:D.drop k=D[k]::D.drop (k+1):=K2 hlt;rw[e0]at hg;obtain⟨g1,g2⟩:=hg;obtain⟨t,t1,t2,t3⟩:=Q72 g1;obtain⟨b1,e1⟩:=Qg5 hok s (by omega);have hrow:=hD _ (K4 hlt);have hnl:=Qv hok hs;have e2:=Ql3 (p:=p) (b,mkR List.isEmpty D) k (by simp only[Qq];omega) (D[k].isEmpty) D[k] (Q7x _ _ hlt) (by have:=hrow.1;omega) (o++[s]) (by simp;omega) (b1,Qd p s) (by simp only;omega) t (Qd p s).length 0 (by simp) (by rw[Kg];exact t1);have e2':Fb5 p (b,mkR List.isEmpty D) (false,o++[s]) (k:Int) (b1,Qd p s) ((Qd p s).length :Int) 0=_:=e2
  have hget:(o++[s]).getD (k-1) 0=s:=by
   rw[K1,Ks (by omega),show k-1-o.length=0 by omega];rfl
  rw[F9pE,gT (by simp only[Qq];omega),dn1 k (by omega) (by omega),gTo,gT (by simp;omega),K3,hget,e1,J0,e2',J0,up1o k,J1,ih (k+1) (o++[s]) t (by omega) (by simp;omega) (hrow.2 t t3) (g2 t t3),e0,Q7k,t1];simp
theorem Qkt{p:DProgram}(hok:Ok p)(b:Bool)(A:List (List Int))(h1:1≤A.length)(hl:A.length≤1000000)(hA:∀l∈A,InS p l)(hne:∀l∈A,l≠[])(hL:Q99 p A):F5 p (b,A.map fun l=>(l.isEmpty,l))=some (false,Q6v p A):=by
 have hlim:=J4
 obtain⟨l,A2,rfl⟩:∃l A2,A=l::A2:=by
  cases A with
  |nil=>simp at h1
  |cons l A2=>exact⟨l,A2,rfl⟩
 obtain⟨c,C,e,c1,_⟩:=Q9e A2 l hne hL;have hcan:∀m∈canL p (l::A2),InS p m:=Q4n (Q:=InS p) (fun l q h=>h.filter q) _ hA
 have hlast:∀(B:List (List Int)) (h:1≤B.length),B.take (B.length-1)++canL p (B.drop (B.length-1))=B:=by
  intro B h
  have e:B.drop (B.length-1)=[B[B.length-1]]:=by
   rw[K2 (by omega),K8 (by omega)]
  have e2:canL p (B.drop (B.length-1))=B.drop (B.length-1):=by rw[e];rfl
  rw[e2,List.take_append_drop]
 have e1:=Ql0 hok false b (l::A2) hA hl ((l::A2).length -1) (by omega);rw[hlast _ h1]at e1
 obtain⟨s,c',rfl⟩:∃s c',c=s::c':=by
  cases c with
  |nil=>exact absurd rfl c1
  |cons s c'=>exact⟨s,c',rfl⟩
 have hs:0≤s∧s<(Q4 p:Int):=(hcan (s::c') (by rw[e];simp)).2 s (by simp);have hgo:=Q9d p _ _ _ e s (by simp);have hlen:=Q1w p (l::A2);have e2:=Ql2 hok false (canL p (l::A2)) hcan (by rw[hlen];exact hl) ((l::A2).length -1) 1 [] s (by rw[hlen];omega) rfl hs (by rw[e];exact hgo);have e2':F9p p (false,mkR List.isEmpty (canL p (l::A2))) (false,[s]) 1=_:=e2
 have ew:i64.wrap ((((mkR List.isEmpty (l::A2)).length :Nat):Int)-2)=(((l::A2).length -1:Nat):Int)-1:=by
  rw[Qq,wr (by omega)];omega
 rw[F5E,gT (by simp only[K1m,Kh];omega),Kt];show((Fbg (b,mkR List.isEmpty (l::A2)) p (false,mkR List.isEmpty (l::A2)) (i64.wrap ((((mkR List.isEmpty (l::A2)).length :Nat):Int)-2))).bind fun r=>_)=_;rw[ew,e1,J0,gT (by rw[Qq,hlen];omega)]
 have h0:(mkR List.isEmpty (canL p (l::A2))).getD 0 (true,[])=((s::c').isEmpty,s::c'):=by rw[e];rfl
 simp only[h0];rw[gT (by simp only[Kq];omega)];simp only[List.getD_cons_zero,e2',J0];rw[Q6v,e];rfl
theorem Qhu(c:List Int)(x:Int):(c.any fun y=>x==y)=c.any fun y=>y==x:=by
 congr 1;funext y;rw[K1w,beq_iff_eq,beq_iff_eq];exact eq_comm
theorem Q9v{α:Type}(xs:List α)(i j:Nat)(z:α)(h:j<xs.length)(hne:j≠i):(J1k xs i).getD j none=some (xs.getD j z):=by
 have e:(j==i)=false:=by simpa using hne
 simp[J1k,K1,List.getElem?_mapIdx,h,e]
theorem Ql4(R:List DLI)(b:Bool)(k:Nat)(hk:k+1<R.length)(hl:R.length≤1000000)(c:List Int)(f:Bool)(hc:R.getD (k+1) (true,[])=(f,c))(hcl:c.length≤1048576)(to:Int):F74 to (b,J1k R k) (k:Int)=some (c.any fun y=>y==to):=by
 have hlen:(J1k R k).length =R.length:=by simp[J1k]
 rw[F74E,up1o k,gTo,gT (by rw[hlen];omega),K3,Q9v R k (k+1) (true,[]) hk (by omega),J0,hc,Q6b _ _ hcl,J0,Qhu]
theorem Q8f(R:List DLI)(b:Bool)(k:Nat)(hk:k+1<R.length)(hl:R.length≤1000000)(c:List Int)(f:Bool)(hc:R.getD (k+1) (true,[])=(f,c))(hcl:c.length≤1048576)(l:DLI)(hll:l.2.length≤1048576):F81 l ((b,J1k R k),((k:Int),()))=some (l.2.any fun x=>c.any fun y=>y==x):=by
 have h:=Ja l.2 (fun x=>c.any fun y=>y==x) (fun i=>Fb2 l ((b,J1k R k),((k:Int),())) (l.2.length:Int) i) (fun i hi=>by
  rw[Fb2E,gTo,gTo,gTo,J2 l.2 _ i hi,Ql4 R b k hk hl c f hc hcl,J0,up1o i,J1]) (by rw[Fb2E,gFo])
 rw[F81E,F3oE];exact Jc h
theorem Qk2{p:DProgram}(hok:Ok p)(gb:Bool)(R:List DLI)(b:Bool)(k:Nat)(hk:k+1<R.length)(hl:R.length≤1000000)(c:List Int)(f:Bool)(hc:R.getD (k+1) (true,[])=(f,c))(hcl:c.length≤1048576)(no:Int)(hn:0≤no∧no<(Q4 p:Int)):F68 no (gb,Q1i p) (b,J1k R k) (k:Int)=some (!Q29 p c no):=by
 have hg:=Q36 p;have hms:=Qa hok.sml;have hnl:=Qv hok hn;rw[F68E,gT hn.1,gTs];simp only[Q6j hn];rw[Q8f R b k hk hl c f hc hcl (false,Qd p no) (by simp only;omega),J0];rfl
theorem Qb5{p:DProgram}(hok:Ok p)(gb:Bool)(R:List DLI)(b:Bool)(k:Nat)(hk:k+1<R.length)(hl:R.length≤1000000)(c:List Int)(f:Bool)(hc:R.getD (k+1) (true,[])=(f,c))(hcl:c.length≤1048576)(l:DLI)(hll:l.2.length≤1048576)(hn:∀x∈l.2,0≤x∧x<(Q4 p:Int)):
  F2u l ((gb,Q1i p),((b,J1k R k),((k:Int),())))=some (l.1,l.2.filter (Q29 p c)):=by
 have hX:=Ja l.2 (fun s=> !Q29 p c s) (fun i=>Fax l ((gb,Q1i p),((b,J1k R k),((k:Int),()))) (l.2.length:Int) i) (fun i hi=>by
  rw[FaxE,gTo,gTo,gTo,J2 l.2 _ i hi,Qk2 hok gb R b k hk hl c f hc hcl _ (hn _ (K4 hi)),J0,up1o i,J1]) (by rw[FaxE,gFo])
 have e:l.2.filter (Q29 p c)=l.2.filter (fun s=> !!Q29 p c s):=by
  congr 1;funext x;rw[Bool.not_not]
 rw[F2uE,F3wE,e]
 exact Q6c (f:=l.1) (fun x=>0≤x∧x<(Q4 p:Int)) (fun s i j=>F8f s ((gb,Q1i p),((b,J1k R k),((k:Int),()))) i j) hll hn (fun s i j hij hj hn2 hP=>by
  rw[F8fE,gTs,gTo,gTs,J2 s _ j hj,Qk2 hok gb R b k hk hl c f hc hcl _ (hP _ (K4 hj)),J0,gTo,gTs,up1o j,up1o i,J1,J1,K3]) (fun s i hn=>by rw[F8fE,gF (by simp only;omega)]) hX
theorem Qj9{p:DProgram}(hok:Ok p)(gb b:Bool)(last:Int)(A:List (List Int))(hA:∀l∈A,InS p l)(hl:A.length≤1000000)(n:Nat):n+1≤A.length→
  Faj (b,mkR (fun _=>false) (A.take n++canL p (A.drop n))) (gb,Q1i p) last ((n:Int)-1)=some (b,mkR (fun _=>false) (canL p A)):=by
 have hm:=Qa hok.sml
 induction n with
 |zero=>
  intro _;rw[FajE,gFo];rfl
 |succ n ih=>
  intro hn;obtain⟨c,C,e1,e2,e3,e4⟩:=Qce (p:=p) A n (by omega)
  have hlen:(A.take (n+1)++canL p (A.drop (n+1))).length =A.length:=by rw[Kf,Q1w,K1s,K29];omega
  have hcI:InS p c:=Q4n (p:=p) (Q:=InS p) (fun l q h=>h.filter q) (A.drop (n+1)) (fun l hl=>hA l (List.mem_of_mem_drop hl)) c (by rw[e1];simp);have hrow:InS p A[n]:=hA _ (K4 _);obtain⟨h2,e2'⟩:=Kb.1 e2;obtain⟨h3,e3'⟩:=Kb.1 e3
  have hat:(mkR (fun _=>false) (A.take (n+1)++canL p (A.drop (n+1)))).getD (n+1) (true,[])=(false,c):=by rw[Q7x _ _ h2,e2']
  have hat3:(mkR (fun _=>false) (A.take (n+1)++canL p (A.drop (n+1)))).getD n (true,[])=(false,A[n]):=by rw[Q7x _ _ h3,e3']
  have e5:=Qb5 hok gb (mkR (fun _=>false) (A.take (n+1)++canL p (A.drop (n+1)))) b n (by rw[Qq];exact h2) (by rw[Qq];omega) c false hat (by have:=hcI.1;omega) (false,A[n]) (by have:=hrow.1;simp only;omega) hrow.2
  have ek:((n+1:Nat):Int)-1=(n:Int):=by omega
  rw[FajE,ek,gTo,gTo,gT (by rw[Qq];omega)];simp only[K3,hat3,e5,J0];rw[gTo,gT (by rw[Qq];omega),bT (by simp)]
  have e6:(mkR (fun _=>false) (A.take (n+1)++canL p (A.drop (n+1)))).set n (false,A[n].filter (Q29 p c))=mkR (fun _=>false) (A.take n++canL p (A.drop n)):=by
   rw[←e4];exact Qgk (fun _=>false) _ n _
  rw[e6,wr (by omega),J1,ih (by omega)]
theorem Qkz{p:DProgram}(hok:Ok p)(gb b:Bool)(o:List Int)(s:Int)(hs:0≤s∧s<(Q4 p:Int))(k:Nat)(hk:o.length+1=k)(hk2:k≤1000000)(to:Int):F7p to (gb,Q1i p) (b,o++[s]) (k:Int)=some ((Qd p s).any fun y=>to==y):=by
 have hg:=Q36 p;have hms:=Qa hok.sml;have hnl:=Qv hok hs
 have hget:(o++[s]).getD (k-1) 0=s:=by
  rw[K1,Ks (by omega),show k-1-o.length=0 by omega];rfl
 rw[F7pE,dn1 k (by omega) (by omega),gTo,gT (by simp;omega),K3];simp only[hget]
 rw[gT hs.1,gT (by first|omega|(simp only;omega)),Q6j hs,Q6b _ _ (by simp only;omega),J0]
theorem Qdw{p:DProgram}(hok:Ok p)(gb b:Bool)(o:List Int)(s:Int)(hs:0≤s∧s<(Q4 p:Int))(k:Nat)(hk:o.length+1=k)(hk2:k≤1000000)(l:DLI)(hl:l.2.length≤1048576)(t:Int)(ht:(l.2.find? fun x=>(Qd p s).any fun y=>x==y)=some t):
  ∃i:Nat,i<l.2.length∧F3v l ((gb,Q1i p),((b,o++[s]),((k:Int),())))=some (i:Int)∧l.2.getD i 0=t:=by
 have h:=Ja l.2 (fun x=>(Qd p s).any fun y=>x==y) (fun i=>Fbj l ((gb,Q1i p),((b,o++[s]),((k:Int),()))) (l.2.length:Int) i) (fun i hi=>by
  rw[FbjE,gTo,gTo,gTo,J2 l.2 _ i hi,Qkz hok gb b o s hs k hk hk2,J0,up1o i,J1]) (by rw[FbjE,gFo])
 have hany:(l.2.any fun x=>(Qd p s).any fun y=>x==y)=true:=Ku.2 ⟨t,K23 ht,by have:=List.find?_some ht;exact this⟩;have hlt:l.2.findIdx (fun x=>(Qd p s).any fun y=>x==y)<l.2.length:=List.findIdx_lt_length.2 (Ku.1 hany);refine⟨_,hlt,?_,?_⟩
 ·rw[F3vE];simp only[h,J0,hany,cond_true]
 ·have:=Qcj _ l.2 hlt;rw[this]at ht
  have e:l.2.getD (l.2.findIdx fun x=>(Qd p s).any fun y=>x==y) 0=l.2[l.2.findIdx fun x=>(Qd p s).any fun y=>x==y]:=by simp[K1,hlt]
  rw[e];exact Option.some.inj ht
theorem Qja{p:DProgram}(hok:Ok p)(gb b:Bool)(D:List (List Int))(hD:∀l∈D,InS p l)(hR:∀l∈D,Qu l)(hl:D.length≤1000000)(d:Nat):∀(k:Nat) (o:List Int) (s:Int),k+d=D.length→o.length+1=k→(0≤s∧s<(Q4 p:Int))→Goes p s (D.drop k)→
  Fbp (b,mkR (fun _=>false) D) (gb,Q1i p) ((D.length:Int)-1) (false,o++[s]) (k:Int)=some (false,o++s::Q7k p s (D.drop k)):=by
 have hm:=Qa hok.sml;have hlim:=J4
 induction d with
 |zero=>
  intro k o s hk ho hs hg;rw[FbpE,gFo,K8 (by omega)];rfl
 |succ d ih=>
  intro k o s hk ho hs hg
  have hlt:k<D.length:=by omega
  have e0:D.drop k=D[k]::D.drop (k+1):=K2 hlt;rw[e0]at hg;obtain⟨g1,g2⟩:=hg;obtain⟨t,t1,t2,t3⟩:=Q72 g1;have hrow:=hD _ (K4 hlt);have hri:=hR _ (K4 hlt)
  have ht:(D[k].find? fun x=>(Qd p s).any fun y=>x==y)=some t:=by rw[Qfk (Q3m p s) hri];exact t1
  obtain⟨i,i1,i2,i3⟩:=Qdw hok gb false o s hs k ho (by omega) (false,D[k]) (by have:=hrow.1;simp only;omega) t ht;have i1':i<D[k].length :=i1;have i3':D[k].getD i 0=t:=i3;rw[FbpE,gTo,gTo,gT (by rw[Qq];omega)];simp only[K3,Q7x (fun _=>false) D hlt,i2,J0,i3'];rw[gTo,gT (by rw[Qq];omega),gTo,gTo,gT (by simp;omega),up1o k,J1,K26,ih (k+1) (o++[s]) t (by omega) (by simp;omega) (hrow.2 t t3) (g2 t t3),e0,Q7k,t1];simp
theorem Q66{p:DProgram}{v:List Int}(h:Sees p v)(path:List Int)(h1:1≤path.length)(hf:¬Q27 (Qx p v (Q7 p p.2.2.1.2 0 (Q4 p)) path)≥0):
  let A:=Qx p v (Q7 p p.2.2.1.2 0 (Q4 p)) path
  1≤A.length∧(∀l∈A,InS p l)∧(∀l∈A,l≠[])∧Q99 p A∧∀l∈A,Qu l:=by
 intro A;refine⟨by rw[Q14];exact h1,Q9b h.ok v path _ (Q4k p.2.2.1.2),fun l hl hn=> ?_,Q88 v path _,Q89 p v path _ (Q94 _ _ _)⟩;apply hf;unfold Q27;have:(A.any fun l=>(l.length:Int)==0)=true:=Ku.2 ⟨l,hl,by rw[hn];rfl⟩;rw[this,cond_true];omega
theorem Qjb{p:DProgram}{v:List Int}(h:Sees p v)(f:Bool)(path:DLI)(h1:1≤path.2.length)(hp:path.2.length≤1000000):
  F6 p (f,v) path=some (if Q27 (Qx p v (Q7 p p.2.2.1.2 0 (Q4 p)) path.2)≥0 then(true,[])else(false,Q6v p (Qx p v (Q7 p p.2.2.1.2 0 (Q4 p)) path.2))):=by
 have hlen:=Q14 p v path.2 (Q7 p p.2.2.1.2 0 (Q4 p));have e1:=Q71 h f path (by omega);have e2:=(Q8j (Qx p v (Q7 p p.2.2.1.2 0 (Q4 p)) path.2) (fun _=>false) false (by rw[hlen];omega)).1;rw[F6E,e1,J0,Qfq h.ok,J0];simp only[e2,J0]
 by_cases c:Q27 (Qx p v (Q7 p p.2.2.1.2 0 (Q4 p)) path.2)≥0
 ·rw[gT c,if_pos c]
 ·rw[gF c,if_neg c];obtain⟨a1,a2,a3,a4,a5⟩:=Q66 h path.2 h1 c;generalize Qx p v (Q7 p p.2.2.1.2 0 (Q4 p)) path.2=A at *
  obtain⟨l,A2,rfl⟩:∃l A2,A=l::A2:=by
   cases A with
   |nil=>simp at a1
   |cons l A2=>exact⟨l,A2,rfl⟩
  obtain⟨c,C,e,c1,_⟩:=Q9e A2 l a3 a4;have hcan:∀m∈canL p (l::A2),InS p m:=Q4n (Q:=InS p) (fun l q h=>h.filter q) _ a2;have hri:∀m∈canL p (l::A2),Qu m:=Q4n (Q:=Qu) (fun l q h=>List.Pairwise.filter _ h) _ a5
  have hlast:∀(B:List (List Int)) (h:1≤B.length),B.take (B.length-1)++canL p (B.drop (B.length-1))=B:=by
   intro B h
   have e:B.drop (B.length-1)=[B[B.length-1]]:=by
    rw[K2 (by omega),K8 (by omega)]
   have e2:canL p (B.drop (B.length-1))=B.drop (B.length-1):=by rw[e];rfl
   rw[e2,List.take_append_drop]
  have hcl:=Q1w p (l::A2);have e3:=Qj9 h.ok false false (((l::A2).length :Int)-1) (l::A2) a2 (by omega) ((l::A2).length -1) (by omega);rw[hlast _ a1]at e3
  obtain⟨s,c',rfl⟩:∃s c',c=s::c':=by
   cases c with
   |nil=>exact absurd rfl c1
   |cons s c'=>exact⟨s,c',rfl⟩
  have hs:0≤s∧s<(Q4 p:Int):=(hcan (s::c') (by rw[e];simp)).2 s (by simp);have hgo:=Q9d p _ _ _ e s (by simp);have e4:=Qja h.ok false false (canL p (l::A2)) hcan hri (by rw[hcl];omega) ((l::A2).length -1) 1 [] s (by rw[hcl];omega) rfl hs (by rw[e];exact hgo);rw[hcl]at e4;have e4':Fbp (false,mkR (fun _=>false) (canL p (l::A2))) (false,Q1i p) (((l::A2).length :Int)-1) (false,[s]) 1=_:=e4
  have ew:i64.wrap ((((l::A2).map fun l=>(false,l)).length :Int)-1)=((l::A2).length :Int)-1:=by
   rw[Kh,wr (by omega)]
  have ew2:i64.wrap ((((l::A2).length :Int)-1)-1)=(((l::A2).length -1:Nat):Int)-1:=by
   rw[wr (by omega)];omega
  simp only[ew,ew2];have e3':Faj (false,(l::A2).map fun l=>(false,l)) (false,(List.range (Q4 p)).map fun s:Nat=>(false,Qd p (s:Int))) (((l::A2).length :Int)-1) ((((l::A2).length -1:Nat):Int)-1)=_:=e3
  have h0:(mkR (fun _=>false) (canL p (l::A2))).getD 0 (true,[])=(false,s::c'):=by rw[e];rfl
  have hset:(mkR (fun _=>false) (canL p (l::A2))).set 0 (false,s::c')=mkR (fun _=>false) (canL p (l::A2)):=by rw[e];rfl
  rw[e3',J0,gT (by rw[Qq,hcl];omega)];simp only[h0,hset,List.getD_cons_zero];rw[gT (by simp only[Kq];omega)];show((Fbp (false,mkR (fun _=>false) (canL p (l::A2))) (false,Q1i p) (((l::A2).length :Int)-1) (false,[s]) 1).bind fun r4=>some (r4.1,r4.2))=_;rw[e4',J0,Q6v,e];rfl
theorem Qe8(q:Nat→Bool)(n:Nat):(List.range n).findIdx? q=(List.range n).find? q:=by
 induction n with
 |zero=>rfl
 |succ n ih=>
  rw[List.range_succ,List.findIdx?_append,List.find?_append,ih]
  cases(List.range n).find? q with
  |some i=>rfl
  |none=>
   cases hq:q n<;>simp[hq,List.findIdx?_cons]
def Q13(P:List Int)(S0 L:Nat)(j:Nat):List (Int×Int):=(List.range j).map fun i=>(P.getD (S0+i*L) 0,((S0+i*L:Nat):Int))
theorem Qbc(P:List Int)(S0 L j:Nat):Q13 P S0 L (j+1)=Q13 P S0 L j++[(P.getD (S0+j*L) 0,((S0+j*L:Nat):Int))]:=by
 simp[Q13,List.range_succ]
theorem Q6l(P:List Int)(S0 L j:Nat)(x:Int):J1o (.int .i64) (.int .i64) (Q13 P S0 L j) x=(List.range j).find? fun i=>x==P.getD (S0+i*L) 0:=by
 rw[←Qe8]
 have e:(fun(e:Den (.pair (.int .i64) (.int .i64)))=>eqD (.int .i64) x e.1==some true)=fun e:Int×Int=>x==e.1:=by
  funext e;have:eqD (.int .i64) x e.1=some ((x:Int)==(e.1:Int)):=rfl;rw[this];cases((x:Int)==(e.1:Int))<;>rfl
 show List.findIdx? _ (Q13 P S0 L j)=_;rw[e,Q13,List.findIdx?_map];rfl
theorem Qdq(P:List Int)(S0 L j:Nat)(x:Int):Jj (.int .i64) (.int .i64) (Q13 P S0 L j) x=((List.range j).find? fun i=>x==P.getD (S0+i*L) 0).map fun i=>((S0+i*L:Nat):Int):=by
 have hm:=Q6l P S0 L j x
 cases h:(List.range j).find? fun i=>x==P.getD (S0+i*L) 0 with
 |none=>
  rw[h]at hm
  have e:Jj (.int .i64) (.int .i64) (Q13 P S0 L j) x=none:=by delta Jj;simp only[hm]
  rw[e];rfl
 |some i=>
  rw[h]at hm
  have e:Jj (.int .i64) (.int .i64) (Q13 P S0 L j) x=some ((Q13 P S0 L j).getD i (dflt (.pair (.int .i64) (.int .i64)))).2 :=by delta Jj;simp only[hm]
  rw[e];have hlt:i<j:=K1x.1 (K23 h)
  have this:∀z:Int×Int,(Q13 P S0 L j).getD i z=(P.getD (S0+i*L) 0,((S0+i*L:Nat):Int)):=fun z=>by
   simp[Q13,K1,hlt]
  exact congrArg (fun q:Int×Int=>some q.2) (this _)
theorem Qdr(P:List Int)(S0 L j:Nat)(h:((List.range j).find? fun i=>P.getD (S0+j*L) 0==P.getD (S0+i*L) 0)=none):J2a (.int .i64) (.int .i64) (Q13 P S0 L j) (P.getD (S0+j*L) 0) ((S0+j*L:Nat):Int)=Q13 P S0 L (j+1):=by
 have hm:=Q6l P S0 L j (P.getD (S0+j*L) 0);rw[h]at hm
 have e:J2a (.int .i64) (.int .i64) (Q13 P S0 L j) (P.getD (S0+j*L) 0) ((S0+j*L:Nat):Int)=Q13 P S0 L j++[(P.getD (S0+j*L) 0,((S0+j*L:Nat):Int))]:=by delta J2a;simp only[hm]
 rw[e,Qbc]
theorem Qk1(b:Bool)(l:List Int)(hl:l.length≤1048576):F58 (b,l)=some (false,l):=by
 have hlim:=J4;rw[F58E,gT (by simp;omega),Kt]
theorem Qg7(P:List Int)(hP:P.length≤1000000)(a b:Nat)(hab:a≤b)(hb:b<P.length)(h:Bool×List (Int×Int))(g:Option Int)(hg:g=some (a:Int))(X:Option (((Bool×List (Int×Int))×DLI×DLI×Bool) ⊕ (Bool×List (Int×Int)))):
  (bif g.isSome then
   bif decide (0≤g.getD 0)then
   bif decide (g.getD 0≤(P.length:Int))then
   (F51 (false,((P.take (toNat (g.getD 0))).drop 0))).bind fun r=>
   bif decide (0≤(b:Int))then
   bif decide ((b:Int)≤(P.length:Int))then
   bif decide (0≤g.getD 0)then
   bif decide (g.getD 0≤(b:Int))then
   (F51 (false,((P.take (toNat (b:Int))).drop (toNat (g.getD 0))))).bind fun r1=>
   some (.inl ((false,h.2),((r.1,r.2),((r1.1,r1.2),true))))
   else none else none else none else none else none else none else X)=some (.inl ((false,h.2),((false,P.take a),((false,(P.take b).drop a),true)))):=by
 subst hg;simp only[Option.isSome_some,cond_true,Option.getD_some,K3];rw[gTo,gTo,Q1x _ (by rw[Kg,K1s];omega),J0,gTo,gTo,gTo,gTo,Q1x _ (by rw[K29,K1s];omega),J0,Kg]
theorem Qd2(S0 L j:Nat):S0+(j+1)*L=S0+j*L+L:=by rw[Nat.succ_mul];omega
theorem Qir(stem loop:DLI)(f:Bool)(P:List Int)(hP:P.length≤1000000)(hL:1≤loop.2.length)(j:Nat)(hj:stem.2.length+j*loop.2.length<P.length)(e:Nat):∀i,i+e=j→
  Fch stem loop (f,P) ((stem.2.length+j*loop.2.length:Nat):Int) ((stem.2.length+i*loop.2.length:Nat):Int)=some (match(List.range' i e).find? fun i=>P.getD (stem.2.length+j*loop.2.length) 0==P.getD (stem.2.length+i*loop.2.length) 0 with
   |some k=> .inl ((false,P.take (stem.2.length+k*loop.2.length)),((false,(P.take (stem.2.length+j*loop.2.length)).drop (stem.2.length+k*loop.2.length)),true))
   |none=> .inr ()):=by
 induction e with
 |zero=>
  intro i hi
  obtain rfl:i=j:=by omega
  rw[FchE,gFo];rfl
 |succ e ih=>
  intro i hi
  have hlt:stem.2.length+i*loop.2.length<stem.2.length+j*loop.2.length:=by
   have:(i+1)*loop.2.length≤j*loop.2.length:=Kr _ (by omega);rw[Nat.succ_mul]at this;omega
  have hn:=Qd2 stem.2.length loop.2.length i
  have hle:stem.2.length+(i+1)*loop.2.length≤1000000:=by
   have:(i+1)*loop.2.length≤j*loop.2.length:=Kr _ (by omega);omega
  have ih':=ih (i+1) (by omega);rw[FchE,gTo,gTo,gTs,gTo,gTs,K1a,List.find?_cons];simp only[K3]
  have eb:(P.getD (stem.2.length+i*loop.2.length) 0==P.getD (stem.2.length+j*loop.2.length) 0)=(P.getD (stem.2.length+j*loop.2.length) 0==P.getD (stem.2.length+i*loop.2.length) 0):=by
   rw[K1w,beq_iff_eq,beq_iff_eq];exact eq_comm
  rw[eb]
  cases hh:P.getD (stem.2.length+j*loop.2.length) 0==P.getD (stem.2.length+i*loop.2.length) 0 with
  |true=>
   rw[cond_true,gTo,gTo,Qk1 _ _ (by rw[Kg,K1s];omega),J0,gTo,gTo,gTo,gTo,Qk1 _ _ (by rw[K29,K1s];omega),J0,Kg]
  |false=>
   have ew:i64.wrap (((stem.2.length+i*loop.2.length:Nat):Int)+(loop.2.length:Int))=((stem.2.length+(i+1)*loop.2.length:Nat):Int):=by
    rw[wr (by omega)];omega
   rw[cond_false,ew,J1,ih']
theorem Qe4(lb:Bool)(stem loop:DLI)(f:Bool)(P:List Int)(hP:P.length≤1000000)(hL:1≤loop.2.length)(hL2:loop.2.length≤1000000)(n:Nat):∀j,P.length≤stem.2.length+j*loop.2.length+n→
  (∃x y r,Fam stem loop (f,P) ((stem.2.length+j*loop.2.length:Nat):Int)=some (.inl ((false,x),((false,y),true)))∧F9v (lb,loop.2) (false,P) (false,Q13 P stem.2.length loop.2.length j) ((stem.2.length+j*loop.2.length:Nat):Int)=some (.inl (r,((false,x),((false,y),true))))∧x.length≤P.length∧y.length≤P.length)∨
  (∃r,Fam stem loop (f,P) ((stem.2.length+j*loop.2.length:Nat):Int)=some (.inr ())∧F9v (lb,loop.2) (false,P) (false,Q13 P stem.2.length loop.2.length j) ((stem.2.length+j*loop.2.length:Nat):Int)=some (.inr r)∧∀k,j≤k→stem.2.length+k*loop.2.length<P.length→∀i,i<k→P.getD (stem.2.length+k*loop.2.length) 0≠P.getD (stem.2.length+i*loop.2.length) 0):=by
 induction n with
 |zero=>
  intro j hn;refine Or.inr ⟨(false,Q13 P stem.2.length loop.2.length j),?_,?_,fun k hk hlt=> ?_⟩
  ·rw[FamE,gF (by simp only;omega)]
  ·rw[F9vE,gF (by simp only;omega)]
  ·have:=Kr loop.2.length hk;omega
 |succ n ih=>
  intro j hn
  by_cases c:stem.2.length+j*loop.2.length<P.length
  ·have e1:=Qir stem loop f P hP hL j c j 0 (by omega);rw[Nat.zero_mul,K2d,←K1g]at e1;have eg:=Qdq P stem.2.length loop.2.length j (P.getD (stem.2.length+j*loop.2.length) 0);have hn2:=Qd2 stem.2.length loop.2.length j
   have ew:i64.wrap (((stem.2.length+j*loop.2.length:Nat):Int)+(loop.2.length:Int))=((stem.2.length+(j+1)*loop.2.length:Nat):Int):=by
    rw[wr (by omega)];omega
   cases hf:(List.range j).find? fun i=>P.getD (stem.2.length+j*loop.2.length) 0==P.getD (stem.2.length+i*loop.2.length) 0 with
   |some k=>
    rw[hf]at e1 eg;have hk:k<j:=K1x.1 (K23 hf);have hlt:stem.2.length+k*loop.2.length≤stem.2.length+j*loop.2.length:=Nat.add_le_add_left (Kr _ (by omega)) _;refine Or.inl ⟨P.take (stem.2.length+k*loop.2.length),(P.take (stem.2.length+j*loop.2.length)).drop (stem.2.length+k*loop.2.length),(false,Q13 P stem.2.length loop.2.length j),?_,?_,by rw[K1s];omega,by rw[K29,K1s];omega⟩
    ·rw[FamE,gTs,e1,J0]
    ·have eg':Jj (.int .i64) (.int .i64) (Q13 P stem.2.length loop.2.length j) (P.getD (stem.2.length+j*loop.2.length) 0)=some ((stem.2.length+k*loop.2.length:Nat):Int):=eg;rw[F9vE,gTs,gTo,gTs];exact Qg7 P hP (stem.2.length+k*loop.2.length) (stem.2.length+j*loop.2.length) hlt c (false,Q13 P stem.2.length loop.2.length j) _ eg' _
   |none=>
    rw[hf]at e1 eg;have eg':Jj (.int .i64) (.int .i64) (Q13 P stem.2.length loop.2.length j) (P.getD (stem.2.length+j*loop.2.length) 0)=none:=eg;have es:=Qdr P stem.2.length loop.2.length j hf
    have s1:Fam stem loop (f,P) ((stem.2.length+j*loop.2.length:Nat):Int)=Fam stem loop (f,P) (i64.wrap (((stem.2.length+j*loop.2.length:Nat):Int)+(loop.2.length:Int))):=by
     rw[FamE,gTs,e1,J0];exact J1 _
    have s2:F9v (lb,loop.2) (false,P) (false,Q13 P stem.2.length loop.2.length j) ((stem.2.length+j*loop.2.length:Nat):Int)=F9v (lb,loop.2) (false,P) (false,Q13 P stem.2.length loop.2.length (j+1)) (i64.wrap (((stem.2.length+j*loop.2.length:Nat):Int)+(loop.2.length:Int))):=by
     rw[F9vE,gTs,gTo,gTs];simp only[K3,eg',Option.isSome_none,cond_false];rw[gTo,gTo,es];exact J1 _
    rw[s1,s2,ew]
    rcases ih (j+1) (by omega)with q|⟨r,q1,q2,q3⟩
    ·exact .inl q
    ·refine .inr ⟨r,q1,q2,fun k hk hlt i hi=> ?_⟩
     by_cases e:k=j
     ·subst e;have:=List.find?_eq_none.1 hf i (K1x.2 hi);simpa using this
     ·exact q3 k (by omega) hlt i hi
  ·refine Or.inr ⟨(false,Q13 P stem.2.length loop.2.length j),?_,?_,fun k hk hlt=> ?_⟩
   ·rw[FamE,gF (by simp only;omega)]
   ·rw[F9vE,gF (by simp only;omega)]
   ·have:=Kr loop.2.length hk;omega
theorem Qfa{p:DProgram}{v:List Int}(h:Sees p v)(fv gv:Bool)(f g:Bool)(s:List Int)(hs:InS p s):∃a b,F2h (fv,v) (f,s)=some (a,cutL v s)∧F49 (gv,v) (g,s)=some (b,cutL v s):=by
 obtain⟨a,_,e1,_,_⟩:=Qcf (v:=(fv,v)) h f g s hs;obtain⟨_,b,_,e2,_⟩:=Qcf (v:=(gv,v)) h f g s hs;exact⟨a,b,e1,e2⟩
theorem Qfh{p:DProgram}(v:List Int){a:Int}(r:List Int)(ha:a∈Qas p v p.2.2.1.2):Q27 (Q1d p v (a::r))≥0→¬Q27 (Q1d p v (a::r))<1:=by
 rw[Qas,Qm,clsL,Kx]at ha;obtain⟨s,hs,e⟩:=ha;intro h0 h1;have er:Q1d p v (a::r)=((Q7 p p.2.2.1.2 0 (Q4 p)).filter fun s=>v.getD s.toNat 0==a)::Qx p v (Qr (((Q7 p p.2.2.1.2 0 (Q4 p)).filter fun s=>v.getD s.toNat 0==a).flatMap (Qd p))) r:=rfl
 have hm:s∈(Q7 p p.2.2.1.2 0 (Q4 p)).filter fun s=>v.getD s.toNat 0==a:=K1e.2 ⟨hs,by rw[beq_iff_eq];exact e⟩
 have hz:((((Q7 p p.2.2.1.2 0 (Q4 p)).filter fun s=>v.getD s.toNat 0==a).length :Int)==0)=false:=by
  have:=List.length_pos_of_mem hm;simp only[beq_eq_false_iff_ne,ne_eq];omega
 rw[er]at h0 h1;unfold Q27 at h0 h1;rw[List.any_cons,hz,K27,List.findIdx_cons,hz,cond_false]at h0 h1
 cases hq:(Qx p v (Qr (((Q7 p p.2.2.1.2 0 (Q4 p)).filter fun s=>v.getD s.toNat 0==a).flatMap (Qd p))) r).any fun l=>(l.length:Int)==0 with
 |false=>rw[hq,cond_false]at h0;omega
 |true=>rw[hq,cond_true]at h1;omega
inductive Way (g:Int→List Int):Int→Int→Prop
 |here (a:Int):Way g a a
 |step {a b c:Int}:b∈g a→Way g b c→Way g a c
theorem Way.trans{g:Int→List Int}{a b c:Int}(h:Way g a b)(h2:Way g b c):Way g a c:=by
 induction h with
 |here a=>exact h2
 |step e _ ih=>exact Way.step e (ih h2)
theorem Way.arc{g:Int→List Int}{a b:Int}(h:b∈g a):Way g a b:=Way.step h (Way.here b)
theorem Way.snoc{g:Int→List Int}{a b c:Int}(h:Way g a b)(h2:c∈g b):Way g a c:=h.trans (Way.arc h2)
theorem Way.closed{g:Int→List Int}{P:Int→Prop}(hc:∀x,P x→∀y∈g x,P y){a b:Int}(h:Way g a b):P a→P b:=by
 induction h with
 |here a=>exact id
 |step e _ ih=>exact fun h=>ih (hc _ h _ e)
theorem Way.turn{g r:Int→List Int}(hr:∀x y,y∈r x→x∈g y){a b:Int}(h:Way r a b):Way g b a:=by
 induction h with
 |here a=>exact Way.here a
 |step e _ ih=>exact ih.trans (Way.arc (hr _ _ e))
def Scc(g:Int→List Int)(a b:Int):Prop:=Way g a b∧Way g b a
theorem Scc.refl(g:Int→List Int)(a:Int):Scc g a a:=⟨Way.here a,Way.here a⟩
theorem Scc.symm{g:Int→List Int}{a b:Int}(h:Scc g a b):Scc g b a:=⟨h.2,h.1⟩
theorem Scc.trans{g:Int→List Int}{a b c:Int}(h:Scc g a b)(h2:Scc g b c):Scc g a c:=⟨h.1.trans h2.1,h2.2.trans h.2⟩
def IsL(g:Int→List Int)(x m:Int):Prop:=Scc g x m∧∀y,Scc g x y→m≤y
theorem IsL.one{g:Int→List Int}{x m k:Int}(h:IsL g x m)(h2:IsL g x k):m=k:=Int.le_antisymm (h.2 k h2.1) (h2.2 m h.1)
theorem IsL.of{g:Int→List Int}{x y m:Int}(h:IsL g x m)(e:Scc g x y):IsL g y m:=⟨e.symm.trans h.1,fun z hz=>h.2 z (e.trans hz)⟩
theorem Qkx{α:Type}(P:α→Prop):∀(l:List α),(∃x∈l,P x)→∃A u B,l=A++u::B∧P u∧∀x∈B,¬P x:=by
 intro l
 induction l with
 |nil=>rintro⟨x,hx,_⟩;cases hx
 |cons a l ih=>
  intro h
  by_cases c:∃x∈l,P x
  ·obtain⟨A,u,B,e,h1,h2⟩:=ih c;exact⟨a::A,u,B,by rw[e,List.cons_append],h1,h2⟩
  ·obtain⟨x,hx,px⟩:=h
   rcases Kd.1 hx with rfl|hx
   ·exact⟨[],x,l,rfl,px,fun y hy py=>c ⟨y,hy,py⟩⟩
   ·exact absurd ⟨x,hx,px⟩ c
theorem Qbx{α:Type}{A X A2 B:List α}{u:α}(hn:(A++u::X).Nodup)(e:A++u::X=A2++u::B):A=A2:=by
 rcases List.append_eq_append_iff.1 e with⟨t,e1,e2⟩|⟨t,e1,e2⟩
 ·cases t with
  |nil=>rw[e1,K1l]
  |cons c t=>
   rw[List.cons_append,K10]at e2;obtain⟨rfl,e3⟩:=e2;rw[e3]at hn;have:=(K19.1 hn).2.1;rw[K1z]at this;exact absurd (by simp) this.1
 ·cases t with
  |nil=>rw[e1,K1l]
  |cons c t=>
   rw[List.cons_append,K10]at e2;obtain⟨rfl,e3⟩:=e2;rw[e1,Kj,List.cons_append]at hn;have:=(K19.1 hn).2.1;rw[K1z]at this;exact absurd (by simp) this.1
structure FinI (g:Int→List Int) (G S:Int→Prop) (o:List Int):Prop where
 see:∀x,S x↔(x∈o∨G x)
 dis:∀x∈o,¬G x
 suc:∀x∈o,∀y∈g x,S y
 star:∀A z B,o=A++z::B→(∀w,Way g z w→w∈A∨w=z)∨∃y,Scc g z y∧y∉A∧y≠z
 nod:o.Nodup
theorem FinI.enter{g:Int→List Int}{G S:Int→Prop}{o:List Int}(h:FinI g G S o){k:Int}(hk:¬S k):FinI g (fun x=>G x∨x=k) (fun x=>S x∨x=k) o:=by
 refine⟨fun x=> ?_,fun x hx hc=> ?_,fun x hx y hy=>Or.inl (h.suc x hx y hy),h.star,h.nod⟩
 ·rw[h.see];constructor
  ·rintro((a|a)|a)
   ·exact Or.inl a
   ·exact Or.inr (Or.inl a)
   ·exact Or.inr (Or.inr a)
  ·rintro(a|a|a)
   ·exact Or.inl (Or.inl a)
   ·exact Or.inl (Or.inr a)
   ·exact Or.inr a
 ·rcases hc with hc|hc
  ·exact h.dis x hx hc
  ·subst hc;exact hk ((h.see x).2 (Or.inl hx))

end Go.Proofs.YtedfhboklcfanaaGreat.R
