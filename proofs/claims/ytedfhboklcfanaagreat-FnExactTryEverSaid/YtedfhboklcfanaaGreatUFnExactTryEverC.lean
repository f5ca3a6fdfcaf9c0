/- The plain law of FnExactTryEver:what the two functions compute is the same. -/
import Derived.Test.YtedfhboklcfanaaGreatUFnExactTryEverB
import Derived.Laws.MathBits
set_option linter.all false
namespace Go.Proofs.YtedfhboklcfanaaGreat.R
open Go.Rf
theorem Qe9{m:Nat}(hm:m≤10000)(pb:Bool){P:List Int}(hP:Q1g m P)(b:Bool)(v:Nat)(hv:v<m)(t13:Bool×List (Bool×List Int))(t14 t15:Int)(r:Bool×List Int)(hr:r.2.length≤100000)(hw:∀w∈r.2,0≤w∧w<(m:Int))(d:Nat):∀(i:Nat) (R:List (Bool×List Int)),i+d=r.2.length→R.length=m→(R.getD v (true,[])).2.length +d≤200000→
  ∃R':List (Bool×List Int),F5s (pb,P) (b,R) (v:Int) t13 t14 t15 r (r.2.length:Int) (i:Int)=some (b,R')∧R'.length=m∧∀j,j<m→(R'.getD j (true,[])).2 =if v=j then(R.getD v (true,[])).2 ++(r.2.drop i).filter (fun w=>P.getD v 0==P.getD w.toNat 0)else(R.getD j (true,[])).2 :=by
 have hlim:=J5
 have hPl:=hP.1
 induction d with
 |zero=>
  intro i R hi hR ht
  refine⟨R,by rw[F5sE,gF (by omega)],hR,fun j hj=> ?_⟩
  rw[K8 (by omega),List.filter_nil,K1s]
  split
  ·rename_i e;rw[e]
  ·rfl
 |succ d ih=>
  intro i R hi hR ht
  have hlt:i<r.2.length:=by omega
  have hx:=hw _ (K3 hlt)
  rw[F5sE,gT (by omega),gT (by omega),gT (by omega),J2 r.2 _ i hlt,up1 i (by omega)]
  simp only[K5,J1]
  rw[gT (by omega),gT (by omega),gT hx.1,gT (by omega),K2 hlt,K1j]
  cases hq:P.getD v 0==P.getD (r.2[i]).toNat 0 with
  |true=>
   obtain⟨R',a1,a2,a3⟩:=ih (i+1) (R.set v ((R.getD v (true,[])).1 &&false,(R.getD v (true,[])).2 ++[r.2[i]])) (by omega) (by rw[Ko];exact hR) (by rw[Q14 _ _ _ _ (by omega),if_pos rfl,Kg,K1g];omega)
   refine⟨R',?_,a2,fun j hj=> ?_⟩
   ·rw[cond_true,gT (by omega),gT (by omega),gT (by rw[K1g];omega),gT (by omega),gT (by omega),bT (by simp),a1]
   ·rw[a3 j hj,Q14 _ _ _ _ (by omega),Q14 _ _ _ _ (by omega),if_pos rfl,if_pos rfl]
    split
    ·rw[Kj];rfl
    ·rfl
  |false=>
   obtain⟨R',a1,a2,a3⟩:=ih (i+1) R (by omega) hR (by omega)
   refine⟨R',by rw[cond_false,a1],a2,fun j hj=> ?_⟩
   rw[a3 j hj]
   simp only[K1x,if_false]
theorem Q63{m:Nat}{G:List (List Int)}(hG:Gr m G)(R':List (Bool×List Int))(h:R'.length=m)(q:Nat→Int→Bool)(hq:∀j,j<m→(R'.getD j (true,[])).2 =(G.getD j []).filter (q j)):R'.map Prod.snd=(List.range G.length).map fun v=>(G.getD v []).filter (q v):=by
 apply List.ext_getElem (by simp[h,hG.len])
 intro j h1 h2
 have h1':j<R'.length:=by simpa using h1
 have:=hq j (by omega)
 simp only[List.getElem_map,List.getElem_range]
 rw[←this]
 simp[K1,h1']
theorem Q64{m:Nat}{G:List (List Int)}(hG:Gr m G)(hs:∀l∈G,l.length≤2000)(nb:Bool){R:List (Bool×List Int)}(hR:R.map Prod.snd=G)(pb:Bool){P:List Int}(hP:Q1g m P):∃W,Fy (nb,R) (pb,P)=some (false,W)∧W.map Prod.snd=Q5 G P:=by
 have hlim:=J5
 have hsm:=hG.small
 have hRl:R.length=m:=by rw[←hG.len,←hR,Ki]
 have key:∀(d i:Nat) (Q:List (Bool×List Int)),i+d=m→Q.length=m→(∀j,i≤j→(Q.getD j (true,[])).2 =[])→
   ∃W,F9s (pb,P) (false,Q) (nb,R) (m:Int) (i:Int)=some (false,W)∧W.length=m∧∀j,j<m→(W.getD j (true,[])).2 =if i≤j then(G.getD j []).filter (fun w=>P.getD j 0==P.getD w.toNat 0)else(Q.getD j (true,[])).2 :=by
  intro d
  induction d with
  |zero=>intro i Q hi hQ _;exact⟨Q,by rw[F9sE,gF (by omega)],hQ,fun j hj=>by rw[if_neg (by omega)]⟩
  |succ d ih=>
   intro i Q hi hQ hz
   obtain⟨r1,r2,r3⟩:=Q2a hR (k:=i) (by rw[hG.len];omega)
   have hsh:=hs _ r3
   have hz0:=hz i (Ky _)
   obtain⟨Q1,a1,a2,a3⟩:=Qe9 hsm pb hP false i (by omega) (nb,R) (m:Int) (i:Int) (R.getD i (true,[])) (by rw[r2];omega) (by rw[r2];exact hG.inn _ r3) (R.getD i (true,[])).2.length 0 Q (by omega) hQ (by rw[hz0,r2,K1q];omega)
   have a1':F5s (pb,P) (false,Q) (i:Int) (nb,R) (m:Int) (i:Int) (R.getD i (true,[])) ((R.getD i (true,[])).2.length :Int) 0=_:=a1
   obtain⟨W,g1,g2,g3⟩:=ih (i+1) Q1 (by omega) a2 (fun j hj=>by
    by_cases c:j<m
    ·rw[a3 j c,if_neg (by omega),hz j (by omega)]
    ·rw[K1,K1l (by omega)]
     rfl)
   refine⟨W,?_,g2,fun j hj=> ?_⟩
   ·rw[F9sE,gT (by omega),gT (by omega),gT (by simp only;omega),K5]
    simp only[a1',J0]
    rw[up1 i (by omega),J1,g1]
   ·rw[g3 j hj,a3 j hj]
    by_cases c:i=j
    ·subst c
     rw[if_neg (by omega),if_pos rfl,if_pos (Ky _),hz0,Kt,Kf,r2]
    ·by_cases c2:i+1≤j
     ·rw[if_pos c2,if_pos (by omega)]
     ·rw[if_neg c2,if_neg c,if_neg (by omega)]
 obtain⟨W,g1,g2,g3⟩:=key m 0 (List.replicate m (true,[])) (by omega) (by simp) (fun j _=>by rw[Qar])
 have g1':F9s (pb,P) (false,List.replicate m (true,[])) (nb,R) (m:Int) 0=_:=g1
 refine⟨W,?_,Q63 hG W g2 _ fun j hj=>by rw[g3 j hj,if_pos (Nat.zero_le _)]⟩
 rw[FyE]
 simp only[hRl,K5]
 rw[gT (by omega),gT (by omega),gT (by omega),gT (by omega),g1',J0]
theorem Qem{m:Nat}(hm:m≤10000)(next goals:Bool×List (Bool×List Int))(pb:Bool){P:List Int}(hP:Q1g m P)(b wb:Bool)(met:Bool×List Int)(W:List (Bool×List Int))(hW:W.length=m)(d:Nat):∀(i:Nat) (F:List Bool),i+d=m→F.length=m→
  ∃F':List Bool,F5l next goals (pb,P) (b,F) met (wb,W) (m:Int) (i:Int)=some (b,F')∧F'.length=m∧∀p:Nat,p<m→F'.getD p false=(F.getD p false||(List.range' i d).any fun v=>P.getD v 0==(p:Int)&&decide (((W.getD v (true,[])).2.length :Int)>0)):=by
 have hPl:=hP.1
 induction d with
 |zero=>intro i F hi hF;exact⟨F,by rw[F5lE,gF (by omega)],hF,fun p hp=>by simp⟩
 |succ d ih=>
  intro i F hi hF
  obtain⟨hv0,hv1⟩:=hP.2 i (by omega)
  have step:F5l next goals (pb,P) (b,F) met (wb,W) (m:Int) (i:Int)=F5l next goals (pb,P) (b,F.set (P.getD i 0).toNat (F.getD (P.getD i 0).toNat false||decide (((W.getD i (true,[])).2.length :Int)>0))) met (wb,W) (m:Int) ((i+1:Nat):Int):=by
   rw[F5lE,gT (by omega),gT (by omega),gT (by simp only;omega),up1 i (by omega)]
   simp only[K5,J1]
   rw[gT (by omega),gT (by omega),gT (by omega),gT (by omega),gT hv0,gT (by omega)]
   cases hc:F.getD (P.getD i 0).toNat false with
   |true=>rw[cond_true,gT hv0,gT (by omega),Bool.true_or]
   |false=>rw[cond_false,gT hv0,gT (by omega),K27]
  obtain⟨F',f1,f2,f3⟩:=ih (i+1) (F.set (P.getD i 0).toNat (F.getD (P.getD i 0).toNat false||decide (((W.getD i (true,[])).2.length :Int)>0))) (by omega) (by rw[Ko];exact hF)
  refine⟨F',by rw[step,f1],f2,fun p hp=> ?_⟩
  rw[f3 p hp,Q1v _ _ _ _ (by omega),K19,List.any_cons]
  by_cases c:P.getD i 0=(p:Int)
  ·rw[if_pos (by omega),c,K5,beq_self_eq_true,Kz,Bool.or_assoc]
  ·rw[if_neg (by omega),beqF c,K1w,K27]
theorem Qeo{m:Nat}(hm:m≤10000)(next goals:Bool×List (Bool×List Int))(pb:Bool){P:List Int}(hP:Q1g m P)(arrow:Bool×List Bool)(b:Bool)(jj:Nat)(hjj:jj≤100000)(t54:Bool×List (Bool×List Int))(t55 t56:Int)(r:Bool×List Int)(hr:Q2o m r.2)(d:Nat):∀(i:Nat) (M:List Int),i+d=r.2.length→M.length=m→
  ∃M':List Int,F6h next goals (pb,P) arrow (b,M) (jj:Int) t54 t55 t56 r (r.2.length:Int) (i:Int)=some (b,M')∧M'.length=m∧∀p:Nat,p<m→M'.getD p 0=if M.getD p 0=(jj:Int)∧hitB P (r.2.drop i) (p:Int)=true then(jj:Int)+1 else M.getD p 0:=by
 have hPl:=hP.1
 have hrl:=hr.1
 induction d with
 |zero=>intro i M hi hM;exact⟨M,by rw[F6hE,gF (by omega)],hM,fun p hp=>by rw[K8 (by omega),if_neg (by simp[hitB])]⟩
 |succ d ih=>
  intro i M hi hM
  have hlt:i<r.2.length:=by omega
  have hx:=hr.2 _ (K3 hlt)
  obtain⟨hv0,hv1⟩:=hP.2 (r.2[i]).toNat (by omega)
  have hcons:∀p:Int,hitB P (r.2.drop i) p=(P.getD (r.2[i]).toNat 0==p||hitB P (r.2.drop (i+1)) p):=fun p=>by rw[hitB,K2 hlt,List.any_cons];rfl
  rw[F6hE,gT (by omega),gT (by omega),gT (by omega),J2 r.2 _ i hlt,up1 i (by omega)]
  simp only[J1]
  rw[gT hx.1,gT (by omega),gT hv0,gT (by omega)]
  by_cases c:M.getD (P.getD (r.2[i]).toNat 0).toNat 0=(jj:Int)
  ·obtain⟨M',f1,f2,f3⟩:=ih (i+1) (M.set (P.getD (r.2[i]).toNat 0).toNat ((jj:Int)+1)) (by omega) (by rw[Ko];exact hM)
   refine⟨M',?_,f2,fun p hp=> ?_⟩
   ·rw[bT (by rw[c];exact beq_self_eq_true _),gT hx.1,gT (by omega),gT hv0,gT (by omega),wr (by omega),f1]
   ·rw[f3 p hp,Qa _ _ _ _ (by omega),hcons]
    by_cases e:P.getD (r.2[i]).toNat 0=(p:Int)
    ·rw[if_pos (show(P.getD (r.2[i]).toNat 0).toNat =p by omega),if_neg (by omega),e,beq_self_eq_true,Bool.true_or,if_pos ⟨by rw[←c];congr 1;omega,rfl⟩]
    ·rw[if_neg (show¬(P.getD (r.2[i]).toNat 0).toNat =p by omega),beqF e,K27]
  ·obtain⟨M',f1,f2,f3⟩:=ih (i+1) M (by omega) hM
   refine⟨M',?_,f2,fun p hp=> ?_⟩
   ·rw[bF (beqF c),f1]
   ·rw[f3 p hp,hcons]
    by_cases e:P.getD (r.2[i]).toNat 0=(p:Int)
    ·have:¬M.getD p 0=(jj:Int):=fun q=>c (by rw[←q];congr 1;omega)
     rw[if_neg (fun q=>this q.1),if_neg (fun q=>this q.1)]
    ·rw[beqF e,K27]
theorem Qen{m:Nat}(hm:m≤10000)(next goals:Bool×List (Bool×List Int))(pb:Bool){P:List Int}(hP:Q1g m P)(arrow:Bool×List Bool)(b gb:Bool)(Q:List (Bool×List Int))(hQ:∀r∈Q,Q2o m r.2)(hQl:Q.length≤100000)(d:Nat):∀(i:Nat) (M:List Int),i+d=Q.length→M.length=m→(∀p:Nat,p<m→0≤M.getD p 0∧M.getD p 0≤(i:Int))→
  ∃M':List Int,F9e next goals (pb,P) arrow (b,M) (gb,Q) (Q.length:Int) (i:Int)=some (b,M')∧M'.length=m∧∀p:Nat,p<m→(M'.getD p 0==(Q.length:Int))=(M.getD p 0==(i:Int)&&(Q.drop i).all fun r=>hitB P r.2 (p:Int)):=by
 induction d with
 |zero=>intro i M hi hM h0;exact⟨M,by rw[F9eE,gF (by omega)],hM,fun p hp=>by rw[K8 (by omega),List.all_nil,Bool.and_true,show i=Q.length by omega]⟩
 |succ d ih=>
  intro i M hi hM h0
  have hlt:i<Q.length:=by omega
  have hr:=hQ _ (K3 hlt)
  obtain⟨M1,a1,a2,a3⟩:=Qeo hm next goals pb hP arrow b i (by omega) (gb,Q) (Q.length:Int) (i:Int) Q[i] hr (Q[i]).2.length 0 M (by omega) hM
  have a1':F6h next goals (pb,P) arrow (b,M) (i:Int) (gb,Q) (Q.length:Int) (i:Int) Q[i] ((Q[i]).2.length :Int) 0=_:=a1
  obtain⟨M',g1,g2,g3⟩:=ih (i+1) M1 (by omega) a2 (fun p hp=>by
   have:=h0 p hp
   rw[a3 p hp]
   split<;>omega)
  refine⟨M',?_,g2,fun p hp=> ?_⟩
  ·rw[F9eE,gT (by omega),gT (by omega),gT (by simp only;omega),J2 Q _ i hlt]
   simp only[a1',J0]
   rw[up1 i (by omega),J1,g1]
  ·have h:=h0 p hp
   rw[g3 p hp,a3 p hp,K2 hlt,List.all_cons,Kf,←Bool.and_assoc]
   congr 1
   by_cases c:M.getD p 0=(i:Int)
   ·rw[c,beq_self_eq_true,Kz]
    cases hitB P (Q[i]).2 (p:Int)with
    |true=>rw[if_pos ⟨rfl,rfl⟩];simp
    |false=>rw[if_neg (by simp)];exact beqF (by omega)
   ·rw[if_neg (fun q=>c q.1),beqF c,K1w]
    exact beqF (by omega)
theorem Qep{m:Nat}(hm:m≤10000)(goals:Bool×List (Bool×List Int))(pb:Bool){P:List Int}(hP:Q1g m P)(ab mb:Bool)(A:List Bool)(hA:A.length=m)(M:List Int)(hM:M.length=m)(d:Nat):∀(i:Nat) (b:Bool) (o:List Int),i+d=m→o.length≤i→
  ∃b',F4v goals (pb,P) (ab,A) (mb,M) (b,o) (m:Int) (i:Int)=some (b',o++((List.range' i d).filter fun v=>A.getD (P.getD v 0).toNat false&&M.getD (P.getD v 0).toNat 0==(goals.2.length:Int)).map Int.ofNat):=by
 have hlim:=J5
 have hPl:=hP.1
 induction d with
 |zero=>intro i b o hi ho;exact⟨b,by rw[F4vE,gF (by omega)];simp⟩
 |succ d ih=>
  intro i b o hi ho
  obtain⟨hv0,hv1⟩:=hP.2 i (by omega)
  rw[F4vE,gT (by omega),gT (by omega),gT (by simp only;omega),up1 i (by omega)]
  simp only[K5,J1]
  rw[gT hv0,gT (by omega),K19,K1j]
  cases hA1:A.getD (P.getD i 0).toNat false with
  |true=>
   rw[cond_true,gT (by omega),gT (by omega),gT hv0,gT (by omega)]
   cases hM1:M.getD (P.getD i 0).toNat 0==(goals.2.length:Int)with
   |true=>
    obtain⟨b',e⟩:=ih (i+1) (b&&false) (o++[(i:Int)]) (by omega) (by simp;omega)
    exact⟨b',by rw[cond_true,gT (by simp;omega),e,if_pos (by rfl),Kj];rfl⟩
   |false=>
    obtain⟨b',e⟩:=ih (i+1) b o (by omega) (by omega)
    exact⟨b',by rw[cond_false,e,if_neg (by simp)]⟩
  |false=>
   obtain⟨b',e⟩:=ih (i+1) b o (by omega) (by omega)
   exact⟨b',by rw[cond_false,e,if_neg (by simp)]⟩
def Q28(G:List (List Int))(P:List Int)(goals:List (List Int)):List Int:=((List.range G.length).filter fun v=>Qb5 G P goals (P.getD v 0)).map Int.ofNat
theorem Q1j{G:List (List Int)}{P:List Int}{v:Nat}(hv:v<G.length):(Q5 G P).getD v []=(G.getD v []).filter fun w=>P.getD v 0==P.getD w.toNat 0:=by
 simp[Q5,K1,hv]
theorem Qgq{m:Nat}{G:List (List Int)}(h1:1≤m)(hG:Gr m G)(hs:∀l∈G,l.length≤2000)(nb:Bool){R:List (Bool×List Int)}(hR:R.map Prod.snd=G){pb:Bool}{P:List Int}(hP:Q1g m P)(e:Fb (nb,R)=some (pb,P))(gb:Bool)(Q:List (Bool×List Int))(hQ:∀r∈Q,Q2o m r.2)(hQl:Q.length≤100000):∃b,Fa (nb,R) (gb,Q)=some (b,Q28 G P (Q.map Prod.snd)):=by
 have hlim:=J5
 have hsm:=hG.small
 have hRl:R.length=m:=by rw[←hG.len,←hR,Ki]
 have hPl:=hP.1
 obtain⟨W,w1,w2⟩:=Q64 hG hs nb hR pb hP
 have hWl:W.length=m:=by have:=congrArg List.length w2;simp[Q5,hG.len]at this;exact this
 obtain⟨F1,a1,a2,a3⟩:=Qem hsm (nb,R) (gb,Q) pb hP false false (false,List.replicate m 0) W hWl m 0 (List.replicate m false) (by omega) (by simp)
 have a1':F5l (nb,R) (gb,Q) (pb,P) (false,List.replicate m false) (false,List.replicate m 0) (false,W) (m:Int) 0=_:=a1
 have z0:∀p,(List.replicate m (0:Int)).getD p 0=0:=fun p=>by
  rw[K1,K1z]
  split<;>rfl
 obtain⟨M,b1,b2,b3⟩:=Qen hsm (nb,R) (gb,Q) pb hP (false,F1) false gb Q hQ hQl Q.length 0 (List.replicate m 0) (by omega) (by simp) (fun p hp=>by rw[z0];omega)
 have b1':F9e (nb,R) (gb,Q) (pb,P) (false,F1) (false,List.replicate m 0) (gb,Q) (Q.length:Int) 0=_:=b1
 obtain⟨b',c1⟩:=Qep hsm (gb,Q) pb hP false false F1 a2 M b2 m 0 true [] (by omega) (by simp)
 have c1':F4v (gb,Q) (pb,P) (false,F1) (false,M) (true,[]) (m:Int) 0=_:=c1
 refine⟨b',?_⟩
 rw[FaE,e,J0]
 simp only[w1,J0,hRl,hWl,K5]
 rw[gT (by omega),gT (by omega),gT (by omega),gT (by omega),gT (by omega),gT (by omega),gT (by omega),gT (by omega),a1',J0]
 simp only[b1',J0,c1',Kt]
 rw[Q28,hG.len,K1c]
 congr 3
 apply List.filter_congr
 intro v hv
 have hvm:v<m:=by simpa using hv
 obtain⟨q0,q1⟩:=hP.2 v hvm
 rw[b3 _ (by omega),a3 _ (by omega),Qg1,K27,z0,K1p q0,Qb5,Kf,List.all_map]
 have e0:((0:Int)==((0:Nat):Int))=true:=by simp
 rw[e0,Kz]
 congr 1
 rw[arcB,hG.len,K1c]
 apply Qef
 intro u hu
 have hum:u<m:=by simpa using hu
 have erow:(W.getD u (true,[])).2 =(G.getD u []).filter fun w=>P.getD u 0==P.getD w.toNat 0:=by
  rw[←Q1j (by rw[hG.len];exact hum),←w2]
  have:u<W.length:=by omega
  simp[K1,this]
 rw[erow]
 cases hc:P.getD u 0==P.getD v 0 with
 |false=>rfl
 |true=>
  rw[beq_iff_eq]at hc
  rw[Kz,Kz,K20,decide_eq_true_eq,Kw]
  constructor
  ·intro h
   obtain⟨w,hw⟩:=List.exists_mem_of_length_pos (l:=(G.getD u []).filter fun w=>P.getD u 0==P.getD w.toNat 0) (by omega)
   rw[K1d,beq_iff_eq]at hw
   exact⟨w,hw.1,by rw[beq_iff_eq,←hw.2,hc]⟩
  ·rintro⟨w,hw1,hw2⟩
   rw[beq_iff_eq]at hw2
   have:=List.length_pos_of_mem (K1d.2 ⟨hw1,by rw[beq_iff_eq,hw2,hc]⟩:w∈(G.getD u []).filter fun w=>P.getD u 0==P.getD w.toNat 0)
   omega
theorem Qcv{m:Nat}(hm:m≤10000)(pb:Bool){P:List Int}(hP:Q1g m P)(own:Int)(b:Bool)(v:Nat)(hv:v<m)(t13:Bool×List (Bool×List Int))(t14 t15:Int)(r:Bool×List Int)(hr:r.2.length≤100000)(hw:∀w∈r.2,0≤w∧w<(m:Int))(d:Nat):∀(i:Nat) (R:List (Bool×List Int)),i+d=r.2.length→R.length=m→(R.getD v (true,[])).2.length +d≤200000→
  ∃R':List (Bool×List Int),F4z (pb,P) own (b,R) (v:Int) t13 t14 t15 r (r.2.length:Int) (i:Int)=some (b,R')∧R'.length=m∧∀j,j<m→(R'.getD j (true,[])).2 =if v=j then(R.getD v (true,[])).2 ++(r.2.drop i).filter (fun w=>P.getD v 0==own&&P.getD w.toNat 0==own)else(R.getD j (true,[])).2 :=by
 have hlim:=J5
 have hPl:=hP.1
 induction d with
 |zero=>
  intro i R hi hR ht
  refine⟨R,by rw[F4zE,gF (by omega)],hR,fun j hj=> ?_⟩
  rw[K8 (by omega),List.filter_nil,K1s]
  split
  ·rename_i e;rw[e]
  ·rfl
 |succ d ih=>
  intro i R hi hR ht
  have hlt:i<r.2.length:=by omega
  have hx:=hw _ (K3 hlt)
  rw[F4zE,gT (by omega),gT (by omega),gT (by omega),J2 r.2 _ i hlt,up1 i (by omega)]
  simp only[K5,J1]
  rw[gT (by omega),gT (by omega),K2 hlt,K1j]
  cases hq:P.getD v 0==own with
  |true=>
   rw[cond_true,gT hx.1,gT (by omega),Kz]
   cases hq2:P.getD (r.2[i]).toNat 0==own with
   |true=>
    obtain⟨R',a1,a2,a3⟩:=ih (i+1) (R.set v ((R.getD v (true,[])).1 &&false,(R.getD v (true,[])).2 ++[r.2[i]])) (by omega) (by rw[Ko];exact hR) (by rw[Q14 _ _ _ _ (by omega),if_pos rfl,Kg,K1g];omega)
    refine⟨R',?_,a2,fun j hj=> ?_⟩
    ·rw[cond_true,gT (by omega),gT (by omega),gT (by rw[K1g];omega),gT (by omega),gT (by omega),bT (by simp),a1]
    ·rw[a3 j hj,Q14 _ _ _ _ (by omega),Q14 _ _ _ _ (by omega),if_pos rfl,if_pos rfl]
     split
     ·rw[Kj,hq];simp only[Kz];rfl
     ·rfl
   |false=>
    obtain⟨R',a1,a2,a3⟩:=ih (i+1) R (by omega) hR (by omega)
    refine⟨R',by rw[cond_false,a1],a2,fun j hj=> ?_⟩
    rw[a3 j hj,hq]
    simp only[Kz,K1x,if_false]
  |false=>
   obtain⟨R',a1,a2,a3⟩:=ih (i+1) R (by omega) hR (by omega)
   refine⟨R',by rw[cond_false,a1],a2,fun j hj=> ?_⟩
   rw[a3 j hj,hq]
   simp only[K1w,K1x,if_false]
theorem Q9j{m:Nat}{G:List (List Int)}(hG:Gr m G)(hs:∀l∈G,l.length≤2000)(nb:Bool){R:List (Bool×List Int)}(hR:R.map Prod.snd=G)(pb:Bool){P:List Int}(hP:Q1g m P)(own:Int):∃W,Fz (nb,R) (pb,P) own=some (false,W)∧W.map Prod.snd=Qo G P own:=by
 have hlim:=J5
 have hsm:=hG.small
 have hRl:R.length=m:=by rw[←hG.len,←hR,Ki]
 have key:∀(d i:Nat) (Q:List (Bool×List Int)),i+d=m→Q.length=m→(∀j,i≤j→(Q.getD j (true,[])).2 =[])→
   ∃W,F9a (pb,P) own (false,Q) (nb,R) (m:Int) (i:Int)=some (false,W)∧W.length=m∧∀j,j<m→(W.getD j (true,[])).2 =if i≤j then(G.getD j []).filter (fun w=>P.getD j 0==own&&P.getD w.toNat 0==own)else(Q.getD j (true,[])).2 :=by
  intro d
  induction d with
  |zero=>intro i Q hi hQ _;exact⟨Q,by rw[F9aE,gF (by omega)],hQ,fun j hj=>by rw[if_neg (by omega)]⟩
  |succ d ih=>
   intro i Q hi hQ hz
   obtain⟨r1,r2,r3⟩:=Q2a hR (k:=i) (by rw[hG.len];omega)
   have hsh:=hs _ r3
   have hz0:=hz i (Ky _)
   obtain⟨Q1,a1,a2,a3⟩:=Qcv hsm pb hP own false i (by omega) (nb,R) (m:Int) (i:Int) (R.getD i (true,[])) (by rw[r2];omega) (by rw[r2];exact hG.inn _ r3) (R.getD i (true,[])).2.length 0 Q (by omega) hQ (by rw[hz0,r2,K1q];omega)
   have a1':F4z (pb,P) own (false,Q) (i:Int) (nb,R) (m:Int) (i:Int) (R.getD i (true,[])) ((R.getD i (true,[])).2.length :Int) 0=_:=a1
   obtain⟨W,g1,g2,g3⟩:=ih (i+1) Q1 (by omega) a2 (fun j hj=>by
    by_cases c:j<m
    ·rw[a3 j c,if_neg (by omega),hz j (by omega)]
    ·rw[K1,K1l (by omega)]
     rfl)
   refine⟨W,?_,g2,fun j hj=> ?_⟩
   ·rw[F9aE,gT (by omega),gT (by omega),gT (by simp only;omega),K5]
    simp only[a1',J0]
    rw[up1 i (by omega),J1,g1]
   ·rw[g3 j hj,a3 j hj]
    by_cases c:i=j
    ·subst c
     rw[if_neg (by omega),if_pos rfl,if_pos (Ky _),hz0,Kt,Kf,r2]
    ·by_cases c2:i+1≤j
     ·rw[if_pos c2,if_pos (by omega)]
     ·rw[if_neg c2,if_neg c,if_neg (by omega)]
 obtain⟨W,g1,g2,g3⟩:=key m 0 (List.replicate m (true,[])) (by omega) (by simp) (fun j _=>by rw[Qar])
 have g1':F9a (pb,P) own (false,List.replicate m (true,[])) (nb,R) (m:Int) 0=_:=g1
 refine⟨W,?_,Q63 hG W g2 _ fun j hj=>by rw[g3 j hj,if_pos (Nat.zero_le _)]⟩
 rw[FzE]
 simp only[hRl,K5]
 rw[gT (by omega),gT (by omega),gT (by omega),gT (by omega),g1',J0]
theorem Qdb{m:Nat}(hm:m≤10000)(sb fb:Bool)(s:List Int)(hs:s.length=m)(F:List Bool)(hF:F.length=m)(d:Nat):∀(i:Nat) (best:Int),i+d=m→best<(m:Int)→
  F46 (sb,s) best (fb,F) (m:Int) (i:Int)=some ((((List.range' i d).filter fun v=>F.getD v false).map Int.ofNat).foldl (Qu s) best):=by
 induction d with
 |zero=>intro i best hi hb;rw[F46E,gF (by omega)];simp
 |succ d ih=>
  intro i best hi hb
  rw[F46E,gT (by omega),gT (by omega),gT (by simp only;omega),up1 i (by omega),K19,K1j]
  simp only[K5,J1]
  cases hc:F.getD i false with
  |false=>rw[cond_false,ih (i+1) best (by omega) hb];simp only[K1x,if_false]
  |true=>
   simp only[cond_true,if_true,K14,K16]
   have ei:s.getD (Int.toNat (Int.ofNat i)) 0=s.getD i 0:=rfl
   rw[gT (by omega),gT (by omega)]
   by_cases c1:s.getD i 0≥0
   ·rw[gT c1]
    by_cases c2:best<0
    ·have e:Qu s best (Int.ofNat i)=(i:Int):=by unfold Qu;rw[ei,if_pos c1,if_pos c2];rfl
     rw[gT c2,e,ih (i+1) (i:Int) (by omega) (by omega)]
    ·rw[gF c2,gT (by omega),gT (by omega),gT (by omega),gT (by omega)]
     by_cases c3:s.getD i 0<s.getD best.toNat 0
     ·have e:Qu s best (Int.ofNat i)=(i:Int):=by unfold Qu;rw[ei,if_pos c1,if_neg c2,if_pos c3];rfl
      rw[gT c3,e,ih (i+1) (i:Int) (by omega) (by omega)]
     ·have e:Qu s best (Int.ofNat i)=best:=by unfold Qu;rw[ei,if_pos c1,if_neg c2,if_neg c3]
      rw[gF c3,e,ih (i+1) best (by omega) hb]
   ·have e:Qu s best (Int.ofNat i)=best:=by unfold Qu;rw[ei,if_neg c1]
    rw[gF c1,e,ih (i+1) best (by omega) hb]
theorem Qdc{m:Nat}(hm:m≤10000)(next:Bool×List (Bool×List Int))(from_:Bool×List Int)(goals:Bool×List (Bool×List Int))(sb lb:Bool)(s:List Int)(hs:s.length=m)(l:List Int)(hl:l.length≤100000)(hw:∀x∈l,0≤x∧x<(m:Int))(d:Nat):∀(i:Nat) (best:Int),i+d=l.length→best<(m:Int)→
  F4e next from_ goals (sb,s) best (lb,l) (l.length:Int) (i:Int)=some ((l.drop i).foldl (Qu s) best):=by
 induction d with
 |zero=>intro i best hi hb;rw[F4eE,gF (by omega),K8 (by omega)];rfl
 |succ d ih=>
  intro i best hi hb
  have hlt:i<l.length:=by omega
  have hx:=hw _ (K3 hlt)
  rw[F4eE,gT (by omega),gT (by omega),gT (by simp only;omega),J2 l _ i hlt,up1 i (by omega),K2 hlt,K16]
  simp only[J1]
  rw[gT hx.1,gT (by omega)]
  by_cases c1:s.getD (l[i]).toNat 0≥0
  ·rw[gT c1]
   by_cases c2:best<0
   ·have e:Qu s best l[i]=l[i]:=by unfold Qu;rw[if_pos c1,if_pos c2]
    rw[gT c2,e,ih (i+1) l[i] (by omega) hx.2]
   ·rw[gF c2,gT hx.1,gT (by omega),gT (by omega),gT (by omega)]
    by_cases c3:s.getD (l[i]).toNat 0<s.getD best.toNat 0
    ·have e:Qu s best l[i]=l[i]:=by unfold Qu;rw[if_pos c1,if_neg c2,if_pos c3]
     rw[gT c3,e,ih (i+1) l[i] (by omega) hx.2]
    ·have e:Qu s best l[i]=best:=by unfold Qu;rw[if_pos c1,if_neg c2,if_neg c3]
     rw[gF c3,e,ih (i+1) best (by omega) hb]
  ·have e:Qu s best l[i]=best:=by unfold Qu;rw[if_neg c1]
   rw[gF c1,e,ih (i+1) best (by omega) hb]
theorem Qgj(G:List (List Int))(P:List Int)(goals:List (List Int)):((List.range G.length).filter fun v=>(Q6a G P goals).getD v false).map Int.ofNat=Q28 G P goals:=by
 rw[Q28]
 congr 1
 apply List.filter_congr
 intro v hv
 have hv':v<G.length:=by simpa using hv
 simp[Q6a,K1,hv']
theorem Q1w{m:Nat}{G:List (List Int)}(hG:Gr m G)(hs:∀l∈G,l.length≤2000)(q:Nat→Int→Bool):Gr m ((List.range G.length).map fun v=>(G.getD v []).filter (q v))∧∀l∈(List.range G.length).map fun v=>(G.getD v []).filter (q v),l.length≤2000:=by
 have row:∀l∈(List.range G.length).map fun v=>(G.getD v []).filter (q v),∃r∈G,l.length≤r.length∧∀w∈l,w∈r:=by
  intro l hl
  obtain⟨v,hv,rfl⟩:=Kv.1 hl
  have hv':v<G.length:=by simpa using hv
  have e:G.getD v []=G[v]:=by simp[K1,hv']
  exact⟨G.getD v [],by rw[e];exact K3 _,K1m _ _,fun w hw=>(K1d.1 hw).1⟩
 refine⟨⟨by rw[Ki,List.length_range];exact hG.len,fun l hl w hw=> ?_,fun l hl=> ?_,hG.small⟩,fun l hl=> ?_⟩
 ·obtain⟨r,r1,_,r3⟩:=row l hl
  exact hG.inn r r1 w (r3 w hw)
 ·obtain⟨r,r1,r2,_⟩:=row l hl
  exact K12 r2 (hG.short r r1)
 ·obtain⟨r,r1,r2,_⟩:=row l hl
  exact K12 r2 (hs r r1)
theorem Q4c{G:List (List Int)}(q:Nat→Int→Bool){v:Nat}(hv:v<G.length):((List.range G.length).map fun v=>(G.getD v []).filter (q v)).getD v []=(G.getD v []).filter (q v):=by
 simp[K1,hv]
def colL(G:List (List Int))(n j:Nat):List Int:=(List.range n).flatMap fun v=>((G.getD v []).filter fun w=>w==(j:Int)).map fun _=>(v:Int)
theorem Qe2(v:Int)(j:Nat)(row:List Int):∀o:List (List Int),(∀w∈row,0≤w∧w<(o.length:Int))→(Q22 v row o).getD j []=o.getD j []++(row.filter fun w=>w==(j:Int)).map fun _=>v:=by
 induction row with
 |nil=>intro o _;simp[Q22]
 |cons a row ih=>
  intro o hw
  have ha:=hw a Kk
  have:=ih (o.set a.toNat (o.getD a.toNat []++[v])) (fun x hx=>by rw[Ko];exact hw x (K9 _ hx))
  rw[Q22]at this
  rw[Q22,K16,this,Q4o _ _ _ _ (by omega),K1j]
  by_cases c:a=(j:Int)
  ·rw[if_pos (by omega),if_pos (by rw[beq_iff_eq];exact c),K14,Kj,show a.toNat=j by omega]
   rfl
  ·rw[if_neg (by omega),if_neg (by rw[beq_iff_eq];exact c)]
theorem Q8z{G:List (List Int)}(hg:∀l∈G,∀w∈l,0≤w∧w<(G.length:Int))(j:Nat):(Qf G).getD j []=colL G G.length j:=by
 have key:∀n,n≤G.length→((List.range n).foldl (fun o (v:Nat)=>Q22 (v:Int) (G.getD v []) o) (List.replicate G.length [])).getD j []=colL G n j:=by
  intro n
  induction n with
  |zero=>
   intro _
   rw[List.range_zero,List.foldl_nil,colL,List.range_zero,List.flatMap_nil,K1,K1z]
   split<;>rfl
  |succ n ih=>
   intro hn
   have hlt:n<G.length:=by omega
   have e:G.getD n []=G[n]:=by simp[K1,hlt]
   obtain⟨t1,_,_⟩:=Q1b G hg n (by omega)
   rw[List.range_succ,List.foldl_append,K16,List.foldl_nil,Qe2 _ _ _ _ (fun w hw=>by rw[t1];exact hg _ (by rw[e];exact K3 hlt) w hw),ih (by omega),colL,colL,List.range_succ,List.flatMap_append]
   simp
 exact key G.length (Ky _)
theorem Qc2(k:Nat)(ws:List Int):∀s q:List Int,∀w∈(ws.foldl (Qm k) (s,q)).2,w∈q∨w∈ws:=by
 induction ws with
 |nil=>intro s q w h;exact Or.inl h
 |cons a ws ih=>
  intro s q w h
  rw[K16]at h
  unfold Qm at h
  by_cases c:s.getD a.toNat 0<0
  ·simp only[if_pos c]at h
   rcases ih _ _ w h with h|h
   ·rcases Kl.1 h with h|h
    ·exact Or.inl h
    ·rw[Km]at h
     exact Or.inr (by rw[h];exact Kk)
   ·exact Or.inr (K9 _ h)
  ·simp only[if_neg c]at h
   rcases ih _ _ w h with h|h
   ·exact Or.inl h
   ·exact Or.inr (K9 _ h)
theorem Qeh{G G':List (List Int)}(C:Int→Prop)(hrow:∀k,C k→G.getD k.toNat []=G'.getD k.toNat []∧∀w∈G.getD k.toNat [],C w)(n:Nat):∀s q:List Int,(∀k∈q,C k)→bfsL G n s q=bfsL G' n s q:=by
 induction n with
 |zero=>intro s q _;rfl
 |succ n ih=>
  intro s q hq
  cases q with
  |nil=>rfl
  |cons k q=>
   obtain⟨e,h⟩:=hrow k (hq k Kk)
   show bfsL G n _ _=bfsL G' n _ _
   rw[←e]
   refine ih _ _ fun w hw=> ?_
   rcases Qc2 _ _ _ _ w hw with c|c
   ·exact hq w (K9 _ c)
   ·exact h w c
theorem Qcp{G G':List (List Int)}(hl:G.length=G'.length)(C:Int→Prop)(hrow:∀k,C k→G.getD k.toNat []=G'.getD k.toNat []∧∀w∈G.getD k.toNat [],C w)(l:List Int)(h:∀k∈l,C k):farL G l=farL G' l:=by
 rw[farL,farL,hl]
 exact Qeh C hrow _ _ _ h
theorem Qe7{G G':List (List Int)}(s:List Int)(C:Int→Prop)(hrow:∀k,C k→G.getD k.toNat []=G'.getD k.toNat []∧∀w∈G.getD k.toNat [],C w)(n:Nat):∀(v:Int) (out:List Int),C v→wayL G s n v out=wayL G' s n v out:=by
 induction n with
 |zero=>intro v out _;rfl
 |succ n ih=>
  intro v out hv
  obtain⟨e,h⟩:=hrow v hv
  have en:Q20 G s v=Q20 G' s v:=by rw[Q20,Q20,e]
  have hc:C (Q20 G s v):=by
   unfold Q20
   cases q:(G.getD v.toNat []).find? fun w=>s.getD w.toNat 0==s.getD v.toNat 0-1 with
   |none=>exact hv
   |some w=>exact h w (K26 q)
  rw[wayL,wayL,←en,ih _ _ hc]
theorem Q4q{m:Nat}{G:List (List Int)}(hG:Gr m G)(hs:∀l∈G,l.length≤2000)(P:List Int)(own:Int)(fr to:List Int)(hf:∀x∈fr,(0≤x∧x<(m:Int))∧P.getD x.toNat 0=own)(ht:∀x∈to,(0≤x∧x<(m:Int))∧P.getD x.toNat 0=own):Q17 (Qo G P own) fr to=Q17 (Q5 G P) fr to:=by
 have i1:Gr m (Qo G P own)∧∀l∈Qo G P own,l.length≤2000:=Q1w hG hs fun v w=>P.getD v 0==own&&P.getD w.toNat 0==own
 have w1:Gr m (Q5 G P)∧∀l∈Q5 G P,l.length≤2000:=Q1w hG hs fun v w=>P.getD v 0==P.getD w.toNat 0
 have li:(Qo G P own).length =m:=i1.1.len
 have lw:(Q5 G P).length =m:=w1.1.len
 have gi:∀l∈Qo G P own,∀w∈l,0≤w∧w<((Qo G P own).length :Int):=by rw[li];exact i1.1.inn
 have gw:∀l∈Q5 G P,∀w∈l,0≤w∧w<((Q5 G P).length :Int):=by rw[lw];exact w1.1.inn
 have ri:∀v,v<m→(Qo G P own).getD v []=(G.getD v []).filter fun w=>P.getD v 0==own&&P.getD w.toNat 0==own:=fun v hv=>Q4c (fun v w=>P.getD v 0==own&&P.getD w.toNat 0==own) (by rw[hG.len];exact hv)
 have rw_:∀v,v<m→(Q5 G P).getD v []=(G.getD v []).filter fun w=>P.getD v 0==P.getD w.toNat 0:=fun v hv=>Q4c (fun v w=>P.getD v 0==P.getD w.toNat 0) (by rw[hG.len];exact hv)
 have hin:∀v:Nat,v<m→∀w∈G.getD v [],0≤w∧w<(m:Int):=fun v hv w hw=>by
  have hv':v<G.length:=by rw[hG.len];exact hv
  have e:G.getD v []=G[v]:=by simp[K1,hv']
  exact hG.inn _ (K3 hv') w (e▸hw)
 have row:∀k,((0≤k∧k<(m:Int))∧P.getD k.toNat 0=own)→(Qo G P own).getD k.toNat []=(Q5 G P).getD k.toNat []∧∀w∈(Qo G P own).getD k.toNat [],(0≤w∧w<(m:Int))∧P.getD w.toNat 0=own:=by
  intro k hk
  rw[ri k.toNat (by omega),rw_ k.toNat (by omega),hk.2]
  refine⟨?_,fun w hw=> ?_⟩
  ·apply List.filter_congr
   intro w _
   rw[beq_self_eq_true,Kz,K20,beq_iff_eq,beq_iff_eq]
   exact eq_comm
  ·rw[K1d,K7,beq_iff_eq,beq_iff_eq]at hw
   exact⟨hin k.toNat (by omega) w hw.1,hw.2.2⟩
 have trow:∀k,((0≤k∧k<(m:Int))∧P.getD k.toNat 0=own)→(Qf (Qo G P own)).getD k.toNat []=(Qf (Q5 G P)).getD k.toNat []∧∀w∈(Qf (Qo G P own)).getD k.toNat [],(0≤w∧w<(m:Int))∧P.getD w.toNat 0=own:=by
  intro k hk
  constructor
  ·rw[Q8z gi,Q8z gw,li,lw,colL,colL]
   have key:∀v∈List.range m,(((Qo G P own).getD v []).filter fun w=>w==((k.toNat:Nat):Int))=(((Q5 G P).getD v []).filter fun w=>w==((k.toNat:Nat):Int)):=by
    intro v hv
    have hv':v<m:=by simpa using hv
    rw[ri v hv',rw_ v hv',List.filter_filter,List.filter_filter]
    apply List.filter_congr
    intro w _
    by_cases c:w=((k.toNat:Nat):Int)
    ·have e:P.getD w.toNat 0=own:=by rw[c,K5];exact hk.2
     rw[e,beq_self_eq_true,Bool.and_true]
    ·rw[beqF c,K1w,K1w]
   rw[List.flatMap_def,List.flatMap_def]
   congr 1
   apply List.map_congr_left
   intro v hv
   rw[key v hv]
  ·intro w hw
   obtain⟨v,hv,rfl,hvk⟩:=(Q1z gi k.toNat w).1 hw
   rw[li]at hv
   rw[ri v hv,K1d,K7,beq_iff_eq]at hvk
   exact⟨by omega,by rw[K5];exact hvk.2.1⟩
 have tl:(Qf (Qo G P own)).length =(Qf (Q5 G P)).length :=by
  have a:=(Q1b _ gi _ (Ky _)).1
  have b:=(Q1b _ gw _ (Ky _)).1
  have a':(Qf (Qo G P own)).length =(Qo G P own).length :=a
  have b':(Qf (Q5 G P)).length =(Q5 G P).length :=b
  rw[a',b',li,lw]
 have ef:=Qcp tl (fun k=>(0≤k∧k<(m:Int))∧P.getD k.toNat 0=own) trow to ht
 rw[Q17,Q17,ef,li,lw]
 by_cases c:Q13 (farL (Qf (Q5 G P)) to) fr<0
 ·simp only[if_pos c]
 ·simp only[if_neg c]
  have hb:=((Q46 (farL (Qf (Q5 G P)) to) fr).resolve_left c).1
  rw[Qe7 _ (fun k=>(0≤k∧k<(m:Int))∧P.getD k.toNat 0=own) row m _ _ (hf _ hb)]
theorem Qf1{g:Int→List Int}{x y m k:Int}(h:IsL g x m)(h2:IsL g y k):m=k↔Scc g x y:=by
 constructor
 ·rintro rfl
  exact h.1.trans h2.1.symm
 ·intro e
  exact(h.of e).one h2
def Q2r(m:Nat)(G:List (List Int))(P:List Int):Prop:=P.length=m∧∀x,0≤x∧x<(m:Int)→IsL (gG G) x (P.getD x.toNat 0)
theorem Qi3{m:Nat}{G:List (List Int)}(hG:Gr m G){a b:Int}(h:Way (gG G) a b)(ha:0≤a∧a<(m:Int)):0≤b∧b<(m:Int):=Way.closed (P:=fun y=>0≤y∧y<(m:Int)) (fun x _ y hy=>Qcs hG x y hy) h ha
theorem Q2r.ok{m:Nat}{G:List (List Int)}{P:List Int}(hG:Gr m G)(h:Q2r m G P):Q1g m P:=⟨h.1,fun v hv=>by
 have:=h.2 (v:Int) (by omega)
 rw[K5]at this
 exact Qi3 hG this.1.1 (by omega)⟩
theorem Q2r.same{m:Nat}{G:List (List Int)}{P:List Int}(h:Q2r m G P){x y:Int}(hx:0≤x∧x<(m:Int))(hy:0≤y∧y<(m:Int)):P.getD x.toNat 0=P.getD y.toNat 0↔Scc (gG G) x y:=Qf1 (h.2 x hx) (h.2 y hy)
theorem Q6o{m:Nat}{G:List (List Int)}(hG:Gr m G){P:List Int}{x y:Int}(hx:0≤x∧x<(m:Int)):y∈gG (Q5 G P) x↔y∈gG G x∧P.getD x.toNat 0=P.getD y.toNat 0:=by
 rw[Q9c _ hx.1,Q9c _ hx.1,Q1j (by rw[hG.len];omega),K1d,beq_iff_eq]
theorem Q4k{m:Nat}{G:List (List Int)}(hG:Gr m G){P:List Int}(h:Q2r m G P){a b:Int}(hw:Way (gG G) a b):(0≤a∧a<(m:Int))→Way (gG G) b a→Way (gG (Q5 G P)) a b:=by
 induction hw with
 |here a=>exact fun _ _=>Way.here a
 |step e hw ih=>
  intro ha hb
  have hc:=Qcs hG _ _ e
  have hs:=(h.same ha hc).2 ⟨Way.arc e,hw.trans hb⟩
  exact Way.step ((Q6o hG ha).2 ⟨e,hs⟩) (ih hc (hb.snoc e))
theorem Qci(r:Bool×List Int)(hf:r.1=true→r.2=[])(hl:r.2.length≤1048576):F4m r=some r:=by
 obtain⟨b,l⟩:=r
 cases b with
 |false=>exact Q48 l hl
 |true=>
  obtain rfl:l=[]:=hf rfl
  rw[F4mE,cond_true]
def Q1m(P goal:List Int)(own:Int):List Int:=goal.filter fun k=>P.getD k.toNat 0==own
theorem Q98{m:Nat}(hm:m≤10000)(pb:Bool){P:List Int}(hP:Q1g m P)(meet:Int)(hme:0≤meet∧meet<(m:Int))(l:Bool×List Int)(hl:Q2o m l.2):F2l l ((pb,P),(meet,()))=some (l.1,Q1m P l.2 (P.getD meet.toNat 0)):=by
 have hPl:=hP.1
 have hll:=hl.1
 have one:∀x,0≤x∧x<(m:Int)→F53 x (pb,P) meet=some (!(P.getD x.toNat 0==P.getD meet.toNat 0)):=fun x hx=>by
  rw[F53E,gT hx.1,gT (by simp only;omega),gT hme.1,gT (by simp only;omega)]
  rfl
 have hX:=Ja l.2 (fun s=> !(P.getD s.toNat 0==P.getD meet.toNat 0)) (fun i=>F9p l ((pb,P),(meet,())) (l.2.length:Int) i) (fun i hi=>by
  rw[F9pE,gT (by omega),gT (by omega),gT (by omega),J2 l.2 _ i hi,one _ (hl.2 _ (K3 hi)),J0,up1 i (by omega),J1]) (by rw[F9pE,gF (by omega)])
 have e:Q1m P l.2 (P.getD meet.toNat 0)=l.2.filter (fun s=> !!(P.getD s.toNat 0==P.getD meet.toNat 0)):=by
  rw[Q1m]
  congr 1
  funext x
  rw[Bool.not_not]
 rw[F2lE,F2vE,e]
 exact Qcm (f:=l.1) (fun x=>0≤x∧x<(m:Int)) (fun s i j=>F6z s ((pb,P),(meet,())) i j) (by omega) hl.2 (fun s i j hij hj hn2 hP2=>by
  rw[F6zE,gT (by simp only;omega),gT (by omega),gT (by simp only;omega),J2 s _ j hj,one _ (hP2 _ (K3 hj)),J0,gT (by omega),gT (by simp only;omega),up1 j (by omega),up1 i (by omega),J1,J1,K5]) (fun s i hn=>by rw[F6zE,gF (by simp only;omega)]) hX
theorem Qf8{m:Nat}(hm:m≤10000)(pb:Bool){P:List Int}(hP:Q1g m P)(meet:Int)(hme:0≤meet∧meet<(m:Int))(stem:Bool×List Int)(inner:Bool×List (Bool×List Int))(loop:Bool×List Int)(t77:Bool×List (Bool×List Int))(t78 t79:Int)(l:Bool×List Int)(hl:Q2o m l.2)(d:Nat):∀(i:Nat) (b:Bool) (o:List Int),i+d=l.2.length→o.length≤i→
  ∃b',F5i meet stem (pb,P) inner loop (b,o) t77 t78 t79 l (l.2.length:Int) (i:Int)=some (b',o++Q1m P (l.2.drop i) (P.getD meet.toNat 0)):=by
 have hlim:=J5
 have hPl:=hP.1
 have hll:=hl.1
 induction d with
 |zero=>intro i b o hi ho;exact⟨b,by rw[F5iE,gF (by omega),K8 (by omega)];simp[Q1m]⟩
 |succ d ih=>
  intro i b o hi ho
  have hlt:i<l.2.length:=by omega
  have hx:=hl.2 _ (K3 hlt)
  rw[F5iE,gT (by omega),gT (by omega),gT (by omega),J2 l.2 _ i hlt,up1 i (by omega),K2 hlt,Q1m,K1j]
  simp only[J1]
  rw[gT hx.1,gT (by omega),gT hme.1,gT (by omega)]
  cases hq:P.getD (l.2[i]).toNat 0==P.getD meet.toNat 0 with
  |true=>
   obtain⟨b',e⟩:=ih (i+1) (b&&false) (o++[l.2[i]]) (by omega) (by simp;omega)
   exact⟨b',by rw[cond_true,gT (by simp;omega),e,if_pos rfl,Kj];rfl⟩
  |false=>
   obtain⟨b',e⟩:=ih (i+1) b o (by omega) (by omega)
   exact⟨b',by rw[cond_false,e];simp only[K1x,if_false];rfl⟩
def Qq(l:List Int):Int:=l.getD (l.length-1) 0
def Arcs(G:List (List Int))(l:List Int):Prop:=∀i,i+1<l.length→l.getD (i+1) 0∈G.getD (l.getD i 0).toNat []
theorem Q2i(l t:List Int)(i:Nat):(l++t).getD i 0=if i<l.length then l.getD i 0 else t.getD (i-l.length) 0:=by
 rw[K1,K1,K1]
 split
 ·rename_i h;rw[Kq h]
 ·rename_i h;rw[Kr (by omega)]
theorem Qb7(l:List Int)(i:Nat):(l.drop 1).getD i 0=l.getD (i+1) 0:=by
 rw[K1,List.getElem?_drop,K1,Nat.add_comm]
theorem Q5e(l g:List Int)(h1:1≤l.length)(h2:1≤g.length)(h:g.getD 0 0=Qq l)(i:Nat)(hi:l.length≤i+1):(l++g.drop 1).getD i 0=g.getD (i+1-l.length) 0:=by
 rw[Q2i]
 split
 ·have e:i=l.length-1:=by omega
  rw[show i+1-l.length=0 by omega,h,Qq,e]
 ·rw[Qb7]
  congr 1
  omega
theorem Q56{G:List (List Int)}{l g:List Int}(hl:Arcs G l)(hg:Arcs G g)(h1:1≤l.length)(h2:1≤g.length)(h:g.getD 0 0=Qq l):Arcs G (l++g.drop 1):=by
 intro i hi
 rw[Kg,List.length_drop]at hi
 by_cases c:i+1<l.length
 ·have:=hl i c
  rw[Q2i,Q2i,if_pos c,if_pos (by omega)]
  exact this
 ·rw[Q5e l g h1 h2 h (i+1) (by omega),Q5e l g h1 h2 h i (by omega)]
  have:=hg (i+1-l.length) (by omega)
  rw[show i+1+1-l.length=i+1-l.length+1 by omega]
  exact this
theorem Qd5{l g:List Int}(h1:1≤l.length)(h2:1≤g.length)(h:g.getD 0 0=Qq l):Qq (l++g.drop 1)=Qq g:=by
 rw[Qq,Q5e l g h1 h2 h _ (by rw[Kg,List.length_drop];omega),Qq,Kg,List.length_drop]
 congr 1
 omega
theorem Q9d{l:List Int}{i:Nat}(h:i<l.length):l.getD i 0∈l:=by
 have e:l.getD i 0=l[i]:=by simp[K1,h]
 rw[e]
 exact K3 h
theorem Q7j{l:List Int}{x:Int}(h:x∈l):∃i,i<l.length∧l.getD i 0=x:=by
 obtain⟨i,hi,rfl⟩:=List.getElem_of_mem h
 exact⟨i,hi,by simp[K1,hi]⟩
structure J37 (m:Nat) (G:List (List Int)) (P:List Int) (meet:Int) (L:List Int):Prop where
 pos:1≤L.length
 head:L.getD 0 0=meet
 arcs:Arcs (Q5 G P) L
 inn:∀x∈L,(0≤x∧x<(m:Int))∧P.getD x.toNat 0=P.getD meet.toNat 0
theorem J37.last{m:Nat}{G:List (List Int)}{P:List Int}{meet:Int}{L:List Int}(h:J37 m G P meet L):(0≤Qq L∧Qq L<(m:Int))∧P.getD (Qq L).toNat 0=P.getD meet.toNat 0:=h.inn _ (Q9d (by have:=h.pos;omega))
theorem J37.step{m:Nat}{G:List (List Int)}(hG:Gr m G)(hs:∀l∈G,l.length≤2000){P:List Int}{meet:Int}{L:List Int}(h:J37 m G P meet L){to:List Int}(hto:to.length≤10000)(ht:∀x∈to,(0≤x∧x<(m:Int))∧P.getD x.toNat 0=P.getD meet.toNat 0){g:List Int}(e:Q17 (Q5 G P) [Qq L] to=some g):J37 m G P meet (L++g.drop 1)∧1≤g.length∧g.length≤m∧Qq (L++g.drop 1)∈to:=by
 obtain⟨w1,w2⟩:Gr m (Q5 G P)∧∀l∈Q5 G P,l.length≤2000:=Q1w hG hs fun v w=>P.getD v 0==P.getD w.toNat 0
 have hl:=h.last
 have S:=Q3g w1 w2 [Qq L] to (fun w hw=>by rw[Km]at hw;rw[hw];exact hl.1) hto (fun w hw=>(ht w hw).1) e
 have h0:g.getD 0 0=Qq L:=Km.1 S.head
 have hlen:(Q5 G P).length =m:=w1.len
 have hpart:∀i,i<g.length→P.getD (g.getD i 0).toNat 0=P.getD meet.toNat 0:=by
  intro i
  induction i with
  |zero=>intro _;rw[h0];exact hl.2
  |succ i ih=>
   intro hi
   have hin:=S.inn i (by omega)
   rw[hlen]at hin
   have:=S.arc i hi
   rw[Q1j (by rw[hG.len];omega),K1d,beq_iff_eq]at this
   rw[←this.2]
   exact ih (by omega)
 refine⟨⟨by rw[Kg];have:=h.pos;omega,?_,Q56 h.arcs S.arc h.pos S.pos h0,fun x hx=> ?_⟩,S.pos,by have:=S.len;omega,?_⟩
 ·rw[Q2i,if_pos (by have:=h.pos;omega)]
  exact h.head
 ·rcases Kl.1 hx with hx|hx
  ·exact h.inn x hx
  ·obtain⟨i,hi,rfl⟩:=Q7j (List.mem_of_mem_drop hx)
   have:=S.inn i hi
   rw[hlen]at this
   exact⟨this,hpart i hi⟩
 ·rw[Qd5 h.pos S.pos h0]
  exact S.last
theorem Q5a{l:List Int}(h:1≤l.length):(l.take l.length).drop (l.length-1)=[Qq l]:=by
 rw[K1i (Ky _),K2 (by omega),K8 (by omega)]
 simp[Qq,K1,show l.length-1<l.length by omega]
theorem Q9r{m:Nat}{G:List (List Int)}(h1:1≤m)(hG:Gr m G)(hs:∀l∈G,l.length≤2000){P:List Int}(hP:Q2r m G P)(pb pb2:Bool)(meet:Int)(hme:0≤meet∧meet<(m:Int))(stem stem2:Bool×List Int)(ib wb:Bool){I W:List (Bool×List Int)}(hI:I.map Prod.snd=Qo G P (P.getD meet.toNat 0))(hW:W.map Prod.snd=Q5 G P)(gb:Bool)(Q:List (Bool×List Int))(hQ:∀r∈Q,Q2o m r.2∧r.2.length≤10000∧(r.1=true→r.2=[]))(hQl:Q.length≤1000)(gb2:Bool)(Q2:List (Bool×List Int))(hQ2:Q2.map Prod.snd=Q.map Prod.snd)(hit:∀r∈Q,hitB P r.2 (P.getD meet.toNat 0)=true)(d:Nat):∀(i:Nat) (L:List Int),i+d=Q.length→J37 m G P meet L→L.length+10000*d≤200000000→
  ∃L',F7f meet stem (pb,P) (ib,I) (false,L) (gb,Q) (Q.length:Int) (i:Int)=some (false,L')∧F8b meet stem2 (pb2,P) (wb,W) (false,L) (gb2,Q2) (Q2.length:Int) (i:Int)=some (false,L')∧J37 m G P meet L'∧L'.length≤L.length+10000*d∧(∀x∈L,x∈L')∧∀r∈Q.drop i,∃k∈r.2,k∈L':=by
 have hlim:=J5
 have hsm:=hG.small
 have hPo:=hP.ok hG
 have hl2:Q2.length=Q.length:=by have:=congrArg List.length hQ2;rwa[Ki,Ki]at this
 obtain⟨w1,w2⟩:Gr m (Q5 G P)∧∀l∈Q5 G P,l.length≤2000:=Q1w hG hs fun v w=>P.getD v 0==P.getD w.toNat 0
 obtain⟨i1,i2⟩:Gr m (Qo G P (P.getD meet.toNat 0))∧∀l∈Qo G P (P.getD meet.toNat 0),l.length≤2000:=Q1w hG hs fun v w=>P.getD v 0==P.getD meet.toNat 0&&P.getD w.toNat 0==P.getD meet.toNat 0
 induction d with
 |zero=>intro i L hi hL hB;exact⟨L,by rw[F7fE,gF (by omega)],by rw[F8bE,gF (by omega)],hL,by omega,fun x h=>h,fun r hr=>by rw[K8 (by omega)]at hr;cases hr⟩
 |succ d ih=>
  intro i L hi hL hB
  have hlt:i<Q.length:=by omega
  have hmem:=K3 hlt
  have hlt2:i<Q2.length:=by omega
  have eq2:(Q2[i]).2 =(Q[i]).2 :=by
   have h1:(Q2.map Prod.snd)[i]'(by rw[Ki];exact hlt2)=(Q.map Prod.snd)[i]'(by rw[Ki];exact hlt):=by congr 1
   rwa[List.getElem_map,List.getElem_map]at h1
  obtain⟨q1,q2,q3⟩:=hQ _ hmem
  have hpos:=hL.pos
  have hla:=hL.last
  have hto:∀x∈Q1m P (Q[i]).2 (P.getD meet.toNat 0),(0≤x∧x<(m:Int))∧P.getD x.toNat 0=P.getD meet.toNat 0:=fun x hx=>by
   rw[Q1m,K1d,beq_iff_eq]at hx
   exact⟨q1.2 x hx.1,hx.2⟩
  have htl:(Q1m P (Q[i]).2 (P.getD meet.toNat 0)).length ≤10000:=K12 (K1m _ _) q2
  have hfr:∀x∈[Qq L],(0≤x∧x<(m:Int))∧P.getD x.toNat 0=P.getD meet.toNat 0:=fun x hx=>by rw[Km]at hx;rw[hx];exact hla
  have eIW:=Q4q hG hs P (P.getD meet.toNat 0) [Qq L] (Q1m P (Q[i]).2 (P.getD meet.toNat 0)) hfr hto
  have hsome:∃g,Q17 (Q5 G P) [Qq L] (Q1m P (Q[i]).2 (P.getD meet.toNat 0))=some g:=by
   cases hq:Q17 (Q5 G P) [Qq L] (Q1m P (Q[i]).2 (P.getD meet.toNat 0))with
   |some g=>exact⟨g,rfl⟩
   |none=>
    exfalso
    have hh:=hit _ hmem
    rw[hitB,Kw]at hh
    obtain⟨k,hk,hkp⟩:=hh
    rw[beq_iff_eq]at hkp
    have hkin:k∈Q1m P (Q[i]).2 (P.getD meet.toNat 0):=by rw[Q1m,K1d,beq_iff_eq];exact⟨hk,hkp⟩
    have hsc:=(hP.same hla.1 (q1.2 k hk)).1 (by rw[hla.2,hkp])
    exact Q3f w1 w2 [Qq L] _ (fun x hx=>(hfr x hx).1) (fun x hx=>(hto x hx).1) hq (Km.2 rfl) hkin (Q4k hG hP hsc.1 hla.1 hsc.2)
  obtain⟨g,hg⟩:=hsome
  obtain⟨s1,s2,s3,s4⟩:=hL.step hG hs htl hto hg
  obtain⟨k1,_,_⟩:=Q1y i1 i2 h1 ib ib false false false hI hI [Qq L] (Q1m P (Q[i]).2 (P.getD meet.toNat 0)) (by simp) (fun x hx=>(hfr x hx).1) htl (fun x hx=>(hto x hx).1) (Q[i]).1 (fun h=>by rw[Q1m,q3 h];rfl)
  obtain⟨b4,e4⟩:=Qf8 hsm pb2 hPo meet hme stem2 (wb,W) (false,L) (gb2,Q2) (Q2.length:Int) (i:Int) Q2[i] (by rw[eq2];exact q1) (Q2[i]).2.length 0 true [] (by omega) (by simp)
  have e4':F5i meet stem2 (pb2,P) (wb,W) (false,L) (true,[]) (gb2,Q2) (Q2.length:Int) (i:Int) Q2[i] ((Q2[i]).2.length :Int) 0=_:=e4
  rw[eq2]at e4'
  obtain⟨_,k2,_⟩:=Q1y w1 w2 h1 wb wb false false b4 hW hW [Qq L] (Q1m P (Q[i]).2 (P.getD meet.toNat 0)) (by simp) (fun x hx=>(hfr x hx).1) htl (fun x hx=>(hto x hx).1) false (by simp)
  rw[eIW,hg]at k1
  rw[hg]at k2
  simp only at k1 k2
  obtain⟨L',a1,a2,a3,a4,a5,a6⟩:=ih (i+1) (L++g.drop 1) (by omega) s1 (by rw[Kg,List.length_drop];omega)
  have ew:IntKind.i64.wrap ((L.length:Int)-1)=((L.length-1:Nat):Int):=by rw[wr (by omega)];omega
  have eg:(g.take g.length).drop 1=g.drop 1:=by rw[K1i (Ky _)]
  have ecl:=Qci Q[i] q3 (by have:=q2;omega)
  have edel:=Q98 hsm pb hPo meet hme Q[i] q1
  have edel':F2l ((Q[i]).1,(Q[i]).2) ((pb,P),(meet,()))=_:=edel
  refine⟨L',?_,?_,a3,by rw[Kg,List.length_drop]at a4;omega,fun x hx=>a5 x (Kb _ hx),fun r hr=> ?_⟩
  ·rw[F7fE,gT (by omega),gT (by omega),gT (by simp only;omega),J2 Q _ i hlt]
   simp only[ecl,J0,edel',ew,K5,Q5a hpos]
   rw[gT (by omega),gT (by omega),k1]
   simp only[J0,eg,K1w]
   rw[gT (by omega),gT (by rw[List.length_drop];omega),up1 i (by omega),J1,a1]
  ·rw[F8bE,gT (by omega),gT (by omega),gT (by simp only;omega),J2 Q2 _ i hlt2]
   simp only[eq2,e4',J0,ew,K5,Q5a hpos,Kt,Kf]
   rw[gT (by omega),gT (by omega),k2]
   simp only[J0,eg,K1w]
   rw[gT (by omega),gT (by rw[List.length_drop];omega),up1 i (by omega),J1,a2]
  ·rw[K2 hlt]at hr
   rcases Kd.1 hr with rfl|hr
   ·refine⟨Qq (L++g.drop 1),(K1d.1 s4).1,a5 _ (Q9d (by rw[Kg];omega))⟩
   ·exact a6 r hr
theorem Qbe{m:Nat}{G:List (List Int)}(hG:Gr m G)(P:List Int)(own:Int){k:Nat}(hk:k<m)(h:P.getD k 0=own):(Qo G P own).getD k []=(Q5 G P).getD k []:=by
 have e1:(Qo G P own).getD k []=(G.getD k []).filter fun w=>P.getD k 0==own&&P.getD w.toNat 0==own:=Q4c (fun v w=>P.getD v 0==own&&P.getD w.toNat 0==own) (by rw[hG.len];exact hk)
 rw[e1,Q1j (by rw[hG.len];exact hk),h]
 apply List.filter_congr
 intro w _
 rw[beq_self_eq_true,Kz,K20,beq_iff_eq,beq_iff_eq]
 exact eq_comm
theorem Qe8{g:Int→List Int}{a u w:Int}(h:Way g a u)(hw:w∈g u):∃y∈g a,Way g y w:=by
 cases h with
 |here a=>exact⟨w,hw,Way.here w⟩
 |step e h2=>exact⟨_,e,h2.snoc hw⟩
theorem Q8v{l:List Int}(h:1≤l.length):l.take (l.length-1)++[Qq l]=l:=by
 have:=List.take_append_drop (l.length-1) l
 have e:=Q5a h
 rw[K1i (Ky _)]at e
 rw[e]at this
 exact this
theorem Qeg{G:List (List Int)}{P:List Int}{l:List Int}(hin:∀i,i<l.length→0≤l.getD i 0∧(l.getD i 0).toNat <G.length)(h:Arcs (Q5 G P) l):Arcs G l:=by
 intro i hi
 have:=h i hi
 rw[Q1j (hin i (by omega)).2,K1d]at this
 exact this.1
structure LassoOk (G:List (List Int)) (fr:List Int) (goals:List (List Int)) (s l:List Int):Prop where
 pos:1≤l.length
 short:s.length+l.length≤20001+10000*goals.length
 head:(s++l++[l.getD 0 0]).getD 0 0∈fr
 arcs:Arcs G (s++l++[l.getD 0 0])
 inn:∀x∈s++l++[l.getD 0 0],0≤x∧x<(G.length:Int)
 goal:∀r∈goals,∃k∈r,k∈l
def Qak:Option (List Int×List Int)→(Bool×List Int)×(Bool×List Int)×Bool
 |some (s,l)=>((false,s),((false,l),true))
 |none=>((true,[]),((true,[]),false))
theorem Q7z{m:Nat}{G:List (List Int)}(hG:Gr m G){P:List Int}{goals:List (List Int)}{x:Int}:x∈Q28 G P goals↔(0≤x∧x<(m:Int))∧Qb5 G P goals (P.getD x.toNat 0)=true:=by
 rw[Q28,Kv,hG.len]
 constructor
 ·rintro⟨v,hv,rfl⟩
  rw[K1d,K1y]at hv
  exact⟨⟨Int.natCast_nonneg _,by have:=hv.1;exact Int.ofNat_lt.2 this⟩,hv.2⟩
 ·rintro⟨h1,h2⟩
  exact⟨x.toNat,by rw[K1d,K1y];exact⟨by omega,h2⟩,K1p h1.1⟩
theorem Q78{m:Nat}{G:List (List Int)}(h1:1≤m)(hG:Gr m G)(hs:∀l∈G,l.length≤2000)(nb nb2:Bool){R R2:List (Bool×List Int)}(hR:R.map Prod.snd=G)(hR2:R2.map Prod.snd=G){pb pb2:Bool}{P:List Int}(hP:Q2r m G P)(ei:F26 (nb,R)=some (pb,P))(es:Fb (nb2,R2)=some (pb2,P))(fb fb2:Bool)(fr:List Int)(hf:fr.length≤10000)(hfw:∀w∈fr,0≤w∧w<(m:Int))(hfb:fb=true→fr=[])(gb:Bool)(Q:List (Bool×List Int))(hQ:∀r∈Q,Q2o m r.2∧r.2.length≤10000∧(r.1=true→r.2=[]))(hQl:Q.length≤1000)(gb2:Bool)(Q2:List (Bool×List Int))(hQ2:Q2.map Prod.snd=Q.map Prod.snd):
  ∃res,F17 (nb,R) (fb,fr) (gb,Q)=some (Qak res)∧Fj (nb2,R2) (fb2,fr) (gb2,Q2)=some (Qak res)∧(res=none↔∀u∈Q28 G P (Q.map Prod.snd),∀x∈fr,¬Way (gG G) x u)∧∀s l,res=some (s,l)→LassoOk G fr (Q.map Prod.snd) s l:=by
 have hlim:=J5
 have hsm:=hG.small
 have hPo:=hP.ok hG
 have hQ1:∀r∈Q,Q2o m r.2:=fun r hr=>(hQ r hr).1
 obtain⟨f1,f2,f3,f4,f5⟩:=Q4b hG fr hfw
 have a1:=Q6v hG h1 nb hR fr hf hfw fb hfb
 have a2:=Q80 h1 hG hs nb hR hPo ei gb Q hQ1 (by omega)
 have hFl:(Q6a G P (Q.map Prod.snd)).length =m:=by rw[Q6a,Ki,List.length_range,hG.len]
 have a3:=Qdb hsm false false (farL G fr) f1 (Q6a G P (Q.map Prod.snd)) hFl m 0 (-1) (by omega) (by omega)
 rw[←K1c,←hG.len,Qgj,hG.len]at a3
 have a3':F46 (false,farL G fr) (-1) (false,Q6a G P (Q.map Prod.snd)) (m:Int) 0=some (Q13 (farL G fr) (Q28 G P (Q.map Prod.snd))):=a3
 have hl2:Q2.length=Q.length:=by have:=congrArg List.length hQ2;rwa[Ki,Ki]at this
 have b1:=Qg3 hG nb2 fb2 hR2 fr hf hfw
 obtain⟨lb,b2⟩:=Qgq h1 hG hs nb2 hR2 hPo es gb2 Q2 (fun r hr=>by
  have:r.2∈Q.map Prod.snd:=by rw[←hQ2];exact K1t hr
  obtain⟨r',h3,h4⟩:=Kv.1 this
  rw[←h4]
  exact hQ1 r' h3) (by omega)
 rw[hQ2]at b2
 have hfl:(Q28 G P (Q.map Prod.snd)).length ≤m:=by
  rw[Q28,Ki]
  refine K12 (K1m _ _) ?_
  rw[List.length_range,hG.len]
  exact Ky _
 have hfin:∀x∈Q28 G P (Q.map Prod.snd),0≤x∧x<(m:Int):=fun x hx=>((Q7z hG).1 hx).1
 have b3:=Qdc hsm (nb2,R2) (fb2,fr) (gb2,Q2) false lb (farL G fr) f1 (Q28 G P (Q.map Prod.snd)) (by omega) hfin (Q28 G P (Q.map Prod.snd)).length 0 (-1) (by omega) (by omega)
 have b3':F4e (nb2,R2) (fb2,fr) (gb2,Q2) (false,farL G fr) (-1) (lb,Q28 G P (Q.map Prod.snd)) ((Q28 G P (Q.map Prod.snd)).length :Int) 0=some (Q13 (farL G fr) (Q28 G P (Q.map Prod.snd))):=by
  rw[Kf]at b3
  exact b3
 have em:F1p (nb,R) (fb,fr) (gb,Q)=some (Q13 (farL G fr) (Q28 G P (Q.map Prod.snd))):=by
  rw[F1pE,a1,J0,a2,J0]
  simp only[hFl,a3',J0]
 have hfrom:=Q46 (farL G fr) (Q28 G P (Q.map Prod.snd))
 have hleast:=fun u (hu:u∈Q28 G P (Q.map Prod.snd))=>Q39 (farL G fr) (Q28 G P (Q.map Prod.snd)) (fun x hx=>(hfin x hx).1) u hu
 rw[F17E,em,FjE,b1,J0,J0,b2,J0]
 simp only[b3',J0]
 generalize Q13 (farL G fr) (Q28 G P (Q.map Prod.snd))=M at hfrom hleast⊢
 by_cases c:M<0
 ·refine⟨none,by rw[gT c];rfl,by rw[gT c];rfl,⟨fun _ u hu x hx hw=> ?_,fun _=>rfl⟩,fun s l h=>by cases h⟩
  have:=(hleast u hu ((Q79 hG fr hfw u (hfin u hu)).2 ⟨x,hx,hw⟩)).1
  omega
 ·obtain⟨m1,m2⟩:=hfrom.resolve_left c
  obtain⟨hM,hfair⟩:=(Q7z hG).1 m1
  obtain⟨x0,hx0,hx0w⟩:=(Q79 hG fr hfw M hM).1 m2
  have hme1:∀w∈[M],0≤w∧w<(m:Int):=fun w hw=>by rw[Km]at hw;rw[hw];exact hM
  obtain⟨w1,w2⟩:Gr m (Q5 G P)∧∀l∈Q5 G P,l.length≤2000:=Q1w hG hs fun v w=>P.getD v 0==P.getD w.toNat 0
  obtain⟨i1,i2⟩:Gr m (Qo G P (P.getD M.toNat 0))∧∀l∈Qo G P (P.getD M.toNat 0),l.length≤2000:=Q1w hG hs fun v w=>P.getD v 0==P.getD M.toNat 0&&P.getD w.toNat 0==P.getD M.toNat 0
  have hst:∃st,Q17 G fr [M]=some st:=by
   cases hq:Q17 G fr [M]with
   |some st=>exact⟨st,rfl⟩
   |none=>exact absurd hx0w (Q3f hG hs fr [M] hfw hme1 hq hx0 (Km.2 rfl))
  obtain⟨st,hst⟩:=hst
  obtain⟨k1,k2,_⟩:=Q1y hG hs h1 nb nb2 fb fb2 false hR hR2 fr [M] hf hfw (by simp) hme1 false (by simp)
  rw[hst]at k1 k2
  simp only at k1 k2
  have S:=Q3g hG hs fr [M] hfw (by simp) hme1 hst
  have hSp:=S.pos
  have hSl:=S.len
  rw[hG.len]at hSl
  obtain⟨I,n1,n2⟩:=Q9j hG hs nb hR pb hPo (P.getD M.toNat 0)
  obtain⟨W,n3,n4⟩:=Q64 hG hs nb2 hR2 pb2 hPo
  have hL0:J37 m G P M [M]:=⟨by simp,rfl,fun i hi=>by simp at hi,fun x hx=>by rw[Km]at hx;rw[hx];exact⟨hM,rfl⟩⟩
  rw[Qb5,K7,K11]at hfair
  obtain⟨L,l1,l2,l3,l4,l5,l6⟩:=Q9r h1 hG hs hP pb pb2 M hM (false,st) (false,st) false false n2 n4 gb Q hQ hQl gb2 Q2 hQ2 (fun r hr=>hfair.2 r.2 (K1t hr)) Q.length 0 [M] (by omega) hL0 (by simp only[K1g];omega)
  have l1':F7f M (false,st) (pb,P) (false,I) (false,[M]) (gb,Q) (Q.length:Int) 0=_:=l1
  have l2':F8b M (false,st) (pb2,P) (false,W) (false,[M]) (gb2,Q2) (Q2.length:Int) 0=_:=l2
  have hla:=l3.last
  have hLp:=l3.pos
  have hLb:L.length≤20000000:=by simp only[K1g]at l4;omega
  obtain⟨p1,p2,p3⟩:=Q2a n2 (k:=(Qq L).toNat) (by rw[i1.len];omega)
  obtain⟨q1,q2,q3⟩:=Q2a n4 (k:=(Qq L).toNat) (by rw[w1.len];omega)
  have hrow:=Qbe hG P (P.getD M.toNat 0) (k:=(Qq L).toNat) (by omega) hla.2
  have hfr2:∀x∈(Q5 G P).getD (Qq L).toNat [],(0≤x∧x<(m:Int))∧P.getD x.toNat 0=P.getD M.toNat 0:=fun x hx=>by
   refine⟨w1.inn _ q3 x hx,?_⟩
   rw[Q1j (by rw[hG.len];omega),K1d,beq_iff_eq]at hx
   rw[←hx.2]
   exact hla.2
  have hfl2:((Q5 G P).getD (Qq L).toNat []).length ≤10000:=by have:=w2 _ q3;omega
  have hto2:∀x∈[M],(0≤x∧x<(m:Int))∧P.getD x.toNat 0=P.getD M.toNat 0:=fun x hx=>by rw[Km]at hx;rw[hx];exact⟨hM,rfl⟩
  have hg:∃g,Q17 (Q5 G P) ((Q5 G P).getD (Qq L).toNat []) [M]=some g:=by
   cases hq:Q17 (Q5 G P) ((Q5 G P).getD (Qq L).toNat []) [M]with
   |some g=>exact⟨g,rfl⟩
   |none=>
    exfalso
    have ha:=hfair.1
    rw[arcB,Kw]at ha
    obtain⟨u,hu,ha⟩:=ha
    rw[K1y,hG.len]at hu
    rw[K7,beq_iff_eq,Kw]at ha
    obtain⟨hup,w,hw,hwp⟩:=ha
    rw[beq_iff_eq]at hwp
    have hui:0≤(u:Int)∧(u:Int)<(m:Int):=by omega
    have hwG:w∈gG G (u:Int):=by rw[Q9c _ hui.1,K5];exact hw
    have hwi:=Qcs hG _ _ hwG
    have s1:=(hP.same hla.1 hui).1 (by rw[hla.2,K5,hup])
    have s2:=(hP.same hwi hM).1 hwp
    have y1:=Q4k hG hP s1.1 hla.1 s1.2
    have y2:w∈gG (Q5 G P) (u:Int):=(Q6o hG hui).2 ⟨hwG,by rw[K5,hup,hwp]⟩
    obtain⟨y,y3,y4⟩:=Qe8 y1 y2
    rw[Q9c _ hla.1.1]at y3
    exact Q3f w1 w2 _ [M] (fun x hx=>(hfr2 x hx).1) hme1 hq y3 (Km.2 rfl) (y4.trans (Q4k hG hP s2.1 hwi s2.2))
  obtain⟨g,hg⟩:=hg
  have eIW:=Q4q hG hs P (P.getD M.toNat 0) _ [M] hfr2 hto2
  have T:=Q3g w1 w2 _ [M] (fun x hx=>(hfr2 x hx).1) (by simp) hme1 hg
  have hTp:=T.pos
  have hTl:=T.len
  rw[w1.len]at hTl
  obtain⟨bi,eIp⟩:∃bi,I.getD (Qq L).toNat (true,[])=(bi,(Q5 G P).getD (Qq L).toNat []):=⟨_,Prod.ext rfl (p2.trans hrow)⟩
  obtain⟨bw,eWp⟩:∃bw,W.getD (Qq L).toNat (true,[])=(bw,(Q5 G P).getD (Qq L).toNat []):=⟨_,Prod.ext rfl q2⟩
  obtain⟨k3,_,_⟩:=Q1y i1 i2 h1 false false bi bi false n2 n2 _ [M] hfl2 (fun x hx=>(hfr2 x hx).1) (by simp) hme1 false (by simp)
  obtain⟨_,k4,_⟩:=Q1y w1 w2 h1 false false bw bw false n4 n4 _ [M] hfl2 (fun x hx=>(hfr2 x hx).1) (by simp) hme1 false (by simp)
  rw[eIW,hg]at k3
  rw[hg]at k4
  simp only at k3 k4
  have hIl:I.length=m:=by have:=congrArg List.length n2;rw[Ki,i1.len]at this;exact this
  have hWl:W.length=m:=by have:=congrArg List.length n4;rw[Ki,w1.len]at this;exact this
  have ewL:IntKind.i64.wrap ((L.length:Int)-1)=((L.length-1:Nat):Int):=by rw[wr (by omega)];omega
  have ewS:IntKind.i64.wrap ((st.length:Int)-1)=((st.length-1:Nat):Int):=by rw[wr (by omega)];omega
  have ewT:IntKind.i64.wrap ((g.length:Int)-1)=((g.length-1:Nat):Int):=by rw[wr (by omega)];omega
  have elast:L.getD (L.length-1) 0=Qq L:=rfl
  refine⟨some (st.take (st.length-1),L++g.take (g.length-1)),?_,?_,⟨fun h=>(by cases h),fun h=>absurd hx0w (h M m1 x0 hx0)⟩,?_⟩
  ·rw[gF c,k1,J0,ei,J0,gT hM.1,gT (by have:=hP.1;simp only;omega)]
   simp only[n1,J0,l1',ewL,K5,elast]
   rw[gT (by omega),gT (by omega),gT hla.1.1,gT (by omega),eIp,k3,J0]
   simp only[ewS,ewT,K5,Kf]
   rw[gT (by omega),gT (by omega),gT (by omega),gT (by omega),gT (by rw[K1u];omega)]
   rfl
  ·rw[gF c,k2,J0,es,J0]
   simp only[n3,J0,l2',ewL,K5,elast]
   rw[gT (by omega),gT (by omega),gT hla.1.1,gT (by omega),eWp,k4,J0]
   simp only[ewS,ewT,K5,Kf]
   rw[gT (by omega),gT (by omega),gT (by omega),gT (by omega),gT (by rw[K1u];omega)]
   rfl
  ·intro s l he
   simp only[K0,K4]at he
   obtain⟨rfl,rfl⟩:=he
   have hgl:Qq g=M:=Km.1 T.last
   have hsl:Qq st=M:=Km.1 S.last
   have t1:=Q8v hSp
   have t2:=Q8v hTp
   have hLh:L.getD 0 0=M:=l3.head
   have eX:(L++g.take (g.length-1)).getD 0 0=M:=by rw[Q2i,if_pos (by omega)];exact hLh
   have eL2:L++g.take (g.length-1)++[M]=L++g:=by rw[Kj,←hgl,t2]
   have hX0:(L++g).getD 0 0=Qq st:=by rw[Q2i,if_pos (by omega),hLh,hsl]
   have hXl:1≤(L++g).length :=by rw[Kg];omega
   have e5:L++g=[Qq st]++(L++g).drop 1:=by
    cases hh:L++g with
    |nil=>rw[hh]at hXl;simp at hXl
    |cons a t=>
     rw[hh]at hX0
     have:a=Qq st:=hX0
     rw[this]
     rfl
   have eAll:st.take (st.length-1)++(L++g.take (g.length-1))++[(L++g.take (g.length-1)).getD 0 0]=st++(L++g).drop 1:=by
    rw[eX,Kj,eL2]
    conv=>rhs;rw[←t1]
    rw[Kj,←e5]
   have ag:Arcs (Q5 G P) (Qq L::g):=by
    intro i hi
    cases i with
    |zero=>exact T.head
    |succ i=>exact T.arc i (by simp only[Kp]at hi;omega)
   have aj:=Q56 (l:=L) (g:=Qq L::g) l3.arcs ag hLp (by simp) rfl
   have ed:(Qq L::g).drop 1=g:=rfl
   rw[ed]at aj
   have hTi:∀x∈g,0≤x∧x<(m:Int):=fun x hx=>by
    obtain⟨i,hi,rfl⟩:=Q7j hx
    have:=T.inn i hi
    rw[w1.len]at this
    exact this
   have hSi:∀x∈st,0≤x∧x<(m:Int):=fun x hx=>by
    obtain⟨i,hi,rfl⟩:=Q7j hx
    have:=S.inn i hi
    rw[hG.len]at this
    exact this
   have hXi:∀x∈L++g,0≤x∧x<(m:Int):=fun x hx=>by
    rcases Kl.1 hx with hx|hx
    ·exact(l3.inn x hx).1
    ·exact hTi x hx
   have aG:=Qeg (G:=G) (fun i hi=>by
    have:=hXi _ (Q9d hi)
    exact⟨this.1,by rw[hG.len];omega⟩) aj
   refine⟨by rw[Kg];omega,by rw[Kg,K1u,K1u,Ki];simp only[K1g]at l4;omega,?_,?_,fun x hx=> ?_,fun r hr=> ?_⟩
   ·rw[eAll,Q2i,if_pos (by omega)]
    exact S.head
   ·rw[eAll]
    exact Q56 (l:=st) (g:=L++g) S.arc aG hSp hXl hX0
   ·rw[eAll]at hx
    rw[hG.len]
    rcases Kl.1 hx with hx|hx
    ·exact hSi x hx
    ·exact hXi x (List.mem_of_mem_drop hx)
   ·obtain⟨r',hr',rfl⟩:=Kv.1 hr
    obtain⟨k,hk1,hk2⟩:=l6 r' (by rw[Kf];exact hr')
    exact⟨k,hk1,Kb _ hk2⟩
def divL(m:Nat)(l:List Int):List Int:=l.map fun k=>Int.tdiv k (m:Int)
theorem Q8x{k:Int}{m:Nat}(h:0≤k∧k≤1600)(hm:1≤m):IntKind.i64.wrap (Int.tdiv k (m:Int))=Int.tdiv k (m:Int):=by
 obtain⟨n,rfl⟩:=Ke h.1
 have e:Int.tdiv (n:Int) (m:Int)=((n / m:Nat):Int):=rfl
 have h2:=Nat.div_le_self n m
 rw[e]
 generalize n / m=z at h2⊢
 rw[wr (by omega)]
theorem Qew(m:Nat)(hm:1≤m)(hm2:m≤1000)(l:Bool×List Int)(hl:l.2.length≤40000000)(hin:∀x∈l.2,0≤x∧x≤1600)(d:Nat):∀(i:Nat) (b:Bool) (o:List Int),i+d=l.2.length→o.length≤i→
  ∃b',F8r (m:Int) (b,o) l (l.2.length:Int) (i:Int)=some (b',o++divL m (l.2.drop i)):=by
 have hlim:=J5
 induction d with
 |zero=>intro i b o hi ho;exact⟨b,by rw[F8rE,gF (by omega),K8 (by omega)];simp[divL]⟩
 |succ d ih=>
  intro i b o hi ho
  have hlt:i<l.2.length:=by omega
  have hx:=hin _ (K3 hlt)
  obtain⟨b',e⟩:=ih (i+1) (b&&false) (o++[Int.tdiv l.2[i] (m:Int)]) (by omega) (by simp;omega)
  refine⟨b',?_⟩
  have hmz:((m:Int)==0)=false:=by simp;omega
  rw[F8rE,gT (by omega),gT (by omega),gT (by omega),J2 l.2 _ i hlt,hmz,cond_false,Q8x hx hm,gT (by simp only[Kp,K1q];omega),up1 i (by omega),J1,e,K2 hlt,Kj,K23]
  rfl
theorem Qah(m:Nat)(hm:1≤m)(hm2:m≤1000)(l:Bool×List Int)(hl:l.2.length≤40000000)(hin:∀x∈l.2,0≤x∧x≤1600):∃b,F2g l (m:Int)=some (b,divL m l.2):=by
 obtain⟨b,e⟩:=Qew m hm hm2 l hl hin l.2.length 0 true [] (by omega) (by simp)
 have e':F8r (m:Int) (true,[]) l (l.2.length:Int) 0=_:=e
 exact⟨b,by rw[F2gE,e',J0,Kf,Kt]⟩
theorem Qb4(q:DQuestion)(hg:Qr q.2.2.2=true)(l:Bool×List Int)(hl:l.2.length≤40000000)(hin:∀x∈l.2,0≤x∧x≤1600)(d:Nat):∀(i:Nat) (b:Bool) (o:List Int),i+d=l.2.length→o.length≤i→
  ∃b',(b=false→b'=false)∧F97 q (b,o) l (l.2.length:Int) (i:Int)=some (b',o++divL (Q3 q.2.2.2) (l.2.drop i)):=by
 have hlim:=J5
 have hm:=Ql hg
 induction d with
 |zero=>intro i b o hi ho;exact⟨b,fun h=>h,by rw[F97E,gF (by omega),K8 (by omega)];simp[divL]⟩
 |succ d ih=>
  intro i b o hi ho
  have hlt:i<l.2.length:=by omega
  have hx:=hin _ (K3 hlt)
  obtain⟨b',h1,e⟩:=ih (i+1) (b&&false) (o++[Int.tdiv l.2[i] (Q3 q.2.2.2:Int)]) (by omega) (by simp;omega)
  refine⟨b',fun _=>h1 (by simp),?_⟩
  have hmz:((Q3 q.2.2.2:Int)==0)=false:=by simp;omega
  have hgu:F5 q.2.2=some (Q3 q.2.2.2:Int):=Q5g q.2.2 hg
  rw[F97E,gT (by omega),gT (by omega),gT (by omega),hgu,J0,J2 l.2 _ i hlt,hmz,cond_false,Q8x hx hm.1,gT (by simp only[Kp,K1q];omega),up1 i (by omega),J1,e,K2 hlt,Kj,K23]
  rfl
theorem Q47(q:DQuestion)(hg:Qr q.2.2.2=true)(l:Bool×List Int)(hl:l.2.length≤40000000)(hin:∀x∈l.2,0≤x∧x≤1600):F2m l q=some (false,divL (Q3 q.2.2.2) l.2):=by
 obtain⟨b,hb,e⟩:=Qb4 q hg l hl hin l.2.length 0 false [] (by omega) (by simp)
 have e':F97 q (false,[]) l (l.2.length:Int) 0=_:=e
 rw[F2mE,e',J0,Kf,Kt,hb rfl]
theorem Qfu{q:DQuestion}(h:Asks q){v:DSight}(hv:Sees q.1 v.2)(hg:Qn q.1 v.2=true)(hf:FitQ q v.2):
  ∃(res:Option (List Int×List Int)) (f1 f2:Bool),F15 q v=some ((false,match res with|some (s,_)=>divL (Q3 q.2.2.2) s|none=>[]),((false,match res with|some (_,l)=>divL (Q3 q.2.2.2) l|none=>[]),res.isSome))∧
   F66 q v=some ((f1,match res with|some (s,_)=>divL (Q3 q.2.2.2) s|none=>[]),((f2,match res with|some (_,l)=>divL (Q3 q.2.2.2) l|none=>[]),res.isSome))∧
   ∀s l,res=some (s,l)→1≤l.length∧s.length≤1000000∧l.length≤1000000∧(∀x∈s,0≤x∧x<Q23 v.2*(Q3 q.2.2.2:Int))∧∀x∈l,0≤x∧x<Q23 v.2*(Q3 q.2.2.2:Int):=by
 obtain⟨f1,f2,f3,g1,g3,N,N',A,G,G',r1,r2,r3,r4,r5,r6,r7,hB⟩:=Q95 h hv hg hf
 obtain⟨n,hn1,hn2,hn3⟩:=hB.wide
 have hm:=Ql h.tr
 have hmc:=Q1t v.2 hv.inn
 have h1:=hB.one
 have hmost:=hB.most
 have hG:Gr N'.length (N'.map Prod.snd):=⟨Ki _,fun l hl w hw=>by
  obtain⟨r,hr,rfl⟩:=Kv.1 hl
  exact(hB.rows r hr).2 w hw,fun l hl=>by
  obtain⟨r,hr,rfl⟩:=Kv.1 hl
  have:=(hB.rows r hr).1
  omega,by omega⟩
 have hs:∀l∈N'.map Prod.snd,l.length≤2000:=fun l hl=>by
  obtain⟨r,hr,rfl⟩:=Kv.1 hl
  have:=(hB.rows r hr).1
  omega
 obtain⟨b1,b2,P,p1,p2,p3,p4⟩:=Qbo h1 hG hs g1 f1 (R:=N') (R2:=N) rfl r3.symm
 have egg:gOf N'=gG (N'.map Prod.snd):=by funext x;rw[Q1k rfl];rfl
 rw[egg]at p4
 have hP:Q2r N'.length (N'.map Prod.snd) P:=⟨p3,p4⟩
 have hQ1:∀r∈G',Q2o N'.length r.2∧r.2.length≤10000∧(r.1=true→r.2=[]):=fun r hr=>by
  obtain⟨a1,a2,a3⟩:=hB.goals r hr
  exact⟨⟨by omega,a3⟩,by omega,fun hh=>by rw[a1]at hh;cases hh⟩
 have hfl:=hB.firstl
 have hgl:=hB.goalsl
 obtain⟨res,e1,e2,_,e4⟩:=Q78 h1 hG hs g1 f1 rfl r3.symm hP p1 p2 false f2 A (by omega) hB.first (fun hh=>by cases hh) g3 G' hQ1 (by omega) f3 G r4.symm
 have hlenN:N.length=N'.length:=by have:=congrArg List.length r3;rw[Ki,Ki]at this;exact this.symm
 have many1:F1v v=some (n:Int):=by rw[Q9p v (by have:=hv.manyV;omega) hv.inn,hn1]
 have hdiv:Int.tdiv (N.length:Int) (n:Int)=(Q3 q.2.2.2:Int):=by
  rw[hlenN,hn3]
  show((n*Q3 q.2.2.2 / n:Nat):Int)=_
  rw[Nat.mul_div_cancel_left _ (by omega)]
 have hnz:((n:Int)==0)=false:=by simp;omega
 have hgl:=hB.goalsl
 cases hres:res with
 |none=>
  rw[hres]at e1 e2
  have e1:F17 (g1,N') (false,A) (g3,G')=some ((true,[]),((true,[]),false)):=e1
  have e2:Fj (f1,N) (f2,A) (f3,G)=some ((true,[]),((true,[]),false)):=e2
  have c0:=Q47 q h.tr (true,[]) (by simp) (by simp)
  refine⟨none,true,true,?_,?_,fun s l hh=>by cases hh⟩
  ·rw[F15E,r2,J0]
   simp only[e1,J0,c0]
   rfl
  ·rw[F66E,r1,J0]
   simp only[e2,J0,Bool.not_false,cond_true]
   rfl
 |some sl=>
  obtain⟨s,l⟩:=sl
  have hO:=e4 s l hres
  rw[hres]at e1 e2
  have e1:F17 (g1,N') (false,A) (g3,G')=some ((false,s),((false,l),true)):=e1
  have e2:Fj (f1,N) (f2,A) (f3,G)=some ((false,s),((false,l),true)):=e2
  have hsh:=hO.short
  rw[Ki]at hsh
  have hsin:∀x∈s,0≤x∧x<(N'.length:Int):=fun x hx=>by
   have:=hO.inn x (by simp[hx])
   rwa[Ki]at this
  have hlin:∀x∈l,0≤x∧x<(N'.length:Int):=fun x hx=>by
   have:=hO.inn x (by simp[hx])
   rwa[Ki]at this
  have c1:=Q47 q h.tr (false,s) (by simp only;omega) (fun x hx=>by have:=hsin x hx;omega)
  have c2:=Q47 q h.tr (false,l) (by simp only;omega) (fun x hx=>by have:=hlin x hx;omega)
  obtain⟨d1,c3⟩:=Qah (Q3 q.2.2.2) hm.1 (by omega) (false,s) (by simp only;omega) (fun x hx=>by have:=hsin x hx;omega)
  obtain⟨d2,c4⟩:=Qah (Q3 q.2.2.2) hm.1 (by omega) (false,l) (by simp only;omega) (fun x hx=>by have:=hlin x hx;omega)
  have hw:IntKind.i64.wrap (Int.tdiv (N.length:Int) (n:Int))=(Q3 q.2.2.2:Int):=by rw[hdiv,wr (by omega)]
  refine⟨some (s,l),d1,d2,?_,?_,fun s' l' hh=> ?_⟩
  ·rw[F15E,r2,J0]
   simp only[e1,J0,c1,c2]
   rfl
  ·rw[F66E,r1,J0]
   simp only[e2,J0,K6,cond_false,many1,hnz,hw,c3,c4]
   rfl
  ·simp only[K0,K4]at hh
   obtain⟨rfl,rfl⟩:=hh
   have e5:(N'.length:Int)=Q23 v.2*(Q3 q.2.2.2:Int):=by rw[hn3,Int.natCast_mul,hn1]
   rw[←e5]
   have hpos:=hO.pos
   exact⟨hpos,by omega,by omega,hsin,hlin⟩
theorem Qa3(q:DQuestion)(h:LawQ q)(v:DSight)(hv:v.2.length≤1048576):
  ∃f f2 g g2 x y ok,F57 q v=some ((f,x),((f2,y),ok))∧F4x q v=some ((g,x),((g2,y),ok))∧x.length≤1000000∧y.length≤1000000:=by
 have none':∃f f2 g g2 x y ok,(some ((true,[]),((true,[]),false)):Option ((Bool×List Int)×(Bool×List Int)×Bool))=some ((f,x),((f2,y),ok))∧(some ((true,[]),((true,[]),false)):Option ((Bool×List Int)×(Bool×List Int)×Bool))=some ((g,x),((g2,y),ok))∧x.length≤1000000∧y.length≤1000000:=
  ⟨true,true,true,true,[],[],false,rfl,rfl,by simp,by simp⟩
 rw[F57E,F4xE,Qf7 q h.sm.prog h.wfp h.wf v hv,Qcx q h.sm.prog v hv,J0,J0]
 cases h0:isQV q v.2 with
 |false=>exact none'
 |true=>
  rw[isQV,K7]at h0
  have ha:=Qg9 h0.1 h.sm.prog h.wfp h.wf
  have hs:=Qgb h0.2 h.sm.prog h.wfp
  obtain⟨b,e1,e2,e3⟩:=Qex ha hs v.1 v.1
  have e1':F1f q v=some b:=e1
  have e2':F2k q v=some b:=e2
  rw[K6,cond_false,cond_false,e1',e2',J0,J0]
  cases b with
  |false=>exact none'
  |true=>
   obtain⟨res,f1,f2,r1,r2,r3⟩:=Qfu ha hs h0.2 (e3.1 rfl)
   cases res with
   |none=>
    have r1:F15 q v=some ((false,[]),((false,[]),false)):=r1
    have r2:F66 q v=some ((f1,[]),((f2,[]),false)):=r2
    refine⟨f1,f2,true,true,[],[],false,?_,?_,by simp,by simp⟩
    ·rw[K6,cond_false,r2,J0]
    ·rw[K6,cond_false,r1,J0]
     rfl
   |some sl=>
    obtain⟨s,l⟩:=sl
    have r1:F15 q v=some ((false,divL (Q3 q.2.2.2) s),((false,divL (Q3 q.2.2.2) l),true)):=r1
    have r2:F66 q v=some ((f1,divL (Q3 q.2.2.2) s),((f2,divL (Q3 q.2.2.2) l),true)):=r2
    obtain⟨_,k2,k3,_⟩:=r3 s l rfl
    refine⟨f1,f2,false,false,divL (Q3 q.2.2.2) s,divL (Q3 q.2.2.2) l,true,?_,?_,by rw[divL,Ki];exact k2,by rw[divL,Ki];exact k3⟩
    ·rw[K6,cond_false,r2,J0]
    ·rw[K6,cond_false,r1,J0]
     rfl
theorem Q3i(x0:DQuestion)(x1:DSight)(w0:WfD tyQuestion x0)(w1:WfD tySight x1):F8k x0 x1=some true:=by
 have w1':x1.2.length≤big:=w1.2.1
 rw[F8kE]
 obtain⟨r0,e0,h0⟩:=Qbt x0 w0 1048576 (by omega)
 rw[e0,J0]
 rcases h0 with h0|⟨h0,h1,hs⟩
 ·rw[gT h0]
 rw[gF (by omega),Qh2 x1 r0 (by omega) w1',J0]
 rcases K2a (r0) (x1.2.length:Int)with c1|c1
 ·rw[if_neg (by omega),gT (by omega)]
 rw[if_pos c1]
 rw[gF (by omega),Qbv x0 hs,J0,Qh4 x1 (by omega),J0]
 obtain⟨f,f2,g,g2,a,c,ok,e1,e2,ha,hc⟩:=Qa3 (cpQ x0) (Qga w0 hs) (false,x1.2) (by simp only;omega)
 have e1':F57 (((Q6 x0.1).1,(Q6 x0.1).2.1,(false,(Q6 x0.1).2.2.1.2),(false,(Q6 x0.1).2.2.2.2)),(false,Q2s x0.2.1.2),(false,x0.2.2.2)) (false,x1.2)=_:=e1
 have e2':F4x (((Q6 x0.1).1,(Q6 x0.1).2.1,(false,(Q6 x0.1).2.2.1.2),(false,(Q6 x0.1).2.2.2.2)),(false,Q2s x0.2.1.2),(false,x0.2.2.2)) (false,x1.2)=_:=e2
 have e3:F5n (((Q6 x0.1).1,(Q6 x0.1).2.1,(false,(Q6 x0.1).2.2.1.2),(false,(Q6 x0.1).2.2.2.2)),(false,Q2s x0.2.1.2),(false,x0.2.2.2)) (((Q6 x0.1).1,(Q6 x0.1).2.1,(false,(Q6 x0.1).2.2.1.2),(false,(Q6 x0.1).2.2.2.2)),(false,Q2s x0.2.1.2),(false,x0.2.2.2))=some true:=Q5d (cpQ x0) (Qc4 hs)
 obtain⟨m0,m1,m2,m3,k,e4,e5,e6⟩:=Q8i (cpQ x0) (Qc4 hs)
 have e4':F68 (Q6 x0.1).1 (Q6 x0.1).2.1 (false,(Q6 x0.1).2.2.1.2) (false,(Q6 x0.1).2.2.2.2) (false,Q2s x0.2.1.2) (false,x0.2.2.2) 1=_:=e4
 have q1:=Q3a g f a (by omega)
 have q2:=Q3a g2 f2 c (by omega)
 have n1:=Q7h g a 1 (by omega) (by omega) (by omega)
 have n2:=Q7h g2 c (1+(a.length:Int)) (by omega) (by omega) (by omega)
 have k1:=Qac g a.length 1 (by omega) (by omega) (by omega)
 have k2:=Qac g2 c.length (1+(a.length:Int)) (by omega) (by omega) (by omega)
 have sv:=Q7y false false x1.2 (by omega)
 have mv:=Qd9 false x1.2 k (by omega) (by omega) (by omega)
 simp only[e1',e2',J0,q1,q2,beq_self_eq_true,bne_self_eq_false,K6,cond_false,e3,sv,e4',mv,n1,n2,k1,k2,gF (show¬k+(x1.2.length:Int)<0 by omega),gF (show¬(1+(a.length:Int))<0 by omega),gF (show¬(1+(a.length:Int)+(c.length:Int))<0 by omega)]

end Go.Proofs.YtedfhboklcfanaaGreat.R
