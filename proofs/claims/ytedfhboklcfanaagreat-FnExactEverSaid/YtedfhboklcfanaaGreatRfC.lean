/- An evaluator over the code of the given program,and its soundness:part 3. -/
import Derived.Test.YtedfhboklcfanaaGreatRfB
import Derived.Sort.Row
import Derived.Sort.Grow
import Derived.Lib.SlicesCompact
set_option linter.all false
namespace Go.Rf
section
variable {P:Program} {H:Hints} {w w':World} {S:Nat→Prop} {hv:Nat→Value} {F:Nat→Nat→Prop} {g gl gm:Look}
structure Down (w:World) (S:Nat→Prop) (hv:Nat→Value) (F:Nat→Nat→Prop) (g gl:Look) (ids:List Nat) (acc acc':Acc) (rs:List (Nat×Rg)) (al:Nat→Value) (fl:Nat→Nat→Prop)
  (R:(Nat→Prop)→(Nat→Value)→Look→Prop):Prop where
 mpkeep:∀e∈acc.mp,e∈acc'.mp
 vwkeep:∀k∈acc.vw,k∈acc'.vw
 mpnew:∀e∈acc'.mp,e∈acc.mp∨(e.1∈ids∧(e.2.2=true→al e.1=hv e.2.1)∧(∃r,gl e.2.1=some r∧r.owns=true))
 vwnew:∀k∈acc'.vw,k∈acc.vw∨gl k≠none
 rsids:rs.map (·.1)=ids
 rsown:∀e∈rs,e.2.owns=true
 flin:∀k b,fl k b→k∈ids∧∃r f,(k,r,f)∈acc'.mp∧F r b
 main:∀(S0:Nat→Prop) (hv0:Nat→Value) (F0:Nat→Nat→Prop) (g0:Look),(∀b,S b→S0 b)→(∀b,FL F acc'.vw b→S0 b)→(∀k∈ids,hv0 k=al k)→(∀k∈ids,∀b,fl k b→F0 k b)→
  (∀e∈acc'.mp,e.1∈ids→∀b,F e.2.1 b→¬fl e.1 b→S0 b)→(∀e∈rs,g0 e.1=some e.2)→(∀e∈acc.mp,e.2.2=true→hv0 e.1=hv e.2.1∧g0 e.1≠none)→
  R S0 hv0 g0∧∀e∈rs,GRep w S0 hv0 g0 F0 e.1 e.2
theorem Acc.has_mem{acc:Acc}{c r:Nat}(h:acc.has c r=true):(c,r,true)∈acc.mp:=by
 unfold Acc.has at h;rw[Ku]at h;obtain⟨⟨a,b,f⟩,hm,he⟩:=h;simp at he;obtain⟨⟨rfl,rfl⟩,rfl⟩:=he;exact hm
theorem Down.same{acc:Acc}{R:(Nat→Prop)→(Nat→Value)→Look→Prop}(h:∀(S0:Nat→Prop) (hv0:Nat→Value) (g0:Look),(∀b,S b→S0 b)→(∀e∈acc.mp,e.2.2=true→hv0 e.1=hv e.2.1∧g0 e.1≠none)→R S0 hv0 g0):Down w S hv F g gl [] acc acc [] hv (fun _ _=>False) R where
 mpkeep:=fun _ h=>h
 vwkeep:=fun _ h=>h
 mpnew:=fun _ h=> .inl h
 vwnew:=fun _ h=> .inl h
 rsids:=rfl
 rsown:=fun e he=>by cases he
 flin:=fun _ _ h=>h.elim
 main:=fun S0 hv0 F0 g0 h1 _ _ _ _ _ h2=>⟨h S0 hv0 g0 h1 h2,fun e he=>by cases he⟩
theorem Down.see{acc:Acc}{l:List Nat}(hl:∀k∈l,gl k≠none){R:(Nat→Prop)→(Nat→Value)→Look→Prop}(h:∀(S0:Nat→Prop) (hv0:Nat→Value) (g0:Look),(∀b,S b→S0 b)→(∀b,FL F l b→S0 b)→R S0 hv0 g0):Down w S hv F g gl [] acc (acc.see l) [] hv (fun _ _=>False) R where
 mpkeep:=fun _ h=>h
 vwkeep:=fun _ h=>Kw _ h
 mpnew:=fun _ h=> .inl h
 vwnew:=fun k hk=>by
  rcases Kl.1 hk with hk|hk
  ·exact .inr (hl k hk)
  ·exact .inl hk
 rsids:=rfl
 rsown:=fun e he=>by cases he
 flin:=fun _ _ h=>h.elim
 main:=fun S0 hv0 F0 g0 h1 h3 _ _ _ _ h2=>⟨h S0 hv0 g0 h1 (fun b ⟨k,hk,hb⟩=>h3 b ⟨k,Ke _ hk,hb⟩),fun e he=>by cases he⟩
theorem Down.both{ids1 ids2:List Nat}{acc acc1 acc2:Acc}{rs1 rs2:List (Nat×Rg)}{al1 al2:Nat→Value}{fl1 fl2:Nat→Nat→Prop}{R1 R2:(Nat→Prop)→(Nat→Value)→Look→Prop}
  (h1:Down w S hv F g gl ids1 acc acc1 rs1 al1 fl1 R1)(h2:Down w S hv F g gl ids2 acc1 acc2 rs2 al2 fl2 R2)(hnd:(ids1++ids2).Nodup):
  ∃al fl,Down w S hv F g gl (ids1++ids2) acc acc2 (rs1++rs2) al fl (fun S0 hv0 g0=>R1 S0 hv0 g0∧R2 S0 hv0 g0):=by
 classical
 have hnd':=K19.1 hnd;refine⟨fun k=>if k∈ids1 then al1 k else al2 k,fun k b=>if k∈ids1 then fl1 k b else fl2 k b,?_⟩
 have hno:∀k,k∈ids2→k∉ids1:=fun k hk hk'=>hnd'.2.2 k hk' k hk rfl
 refine⟨fun e he=>h2.mpkeep e (h1.mpkeep e he),fun k hk=>h2.vwkeep k (h1.vwkeep k hk),?_,?_,by rw[List.map_append,h1.rsids,h2.rsids],?_,?_,?_⟩
 ·intro e he
  rcases h2.mpnew e he with he|⟨k1,k2,k3⟩
  ·rcases h1.mpnew e he with he|⟨k1,k2,k3⟩
   ·exact .inl he
   ·exact .inr ⟨Ke _ k1,fun hf=>by simp only[k1,if_true];exact k2 hf,k3⟩
  ·exact .inr ⟨Kw _ k1,fun hf=>by simp only[hno _ k1,if_false];exact k2 hf,k3⟩
 ·intro k hk
  rcases h2.vwnew k hk with hk|hk
  ·exact h1.vwnew k hk
  ·exact .inr hk
 ·intro e he
  rcases Kl.1 he with he|he
  ·exact h1.rsown e he
  ·exact h2.rsown e he
 ·intro k b hb
  by_cases hk:k∈ids1
  ·simp only[hk,if_true]at hb;obtain⟨_,r,f,m1,m2⟩:=h1.flin k b hb;exact⟨Ke _ hk,r,f,h2.mpkeep _ m1,m2⟩
  ·simp only[hk,if_false]at hb;obtain⟨m0,r,f,m1,m2⟩:=h2.flin k b hb;exact⟨Kw _ m0,r,f,m1,m2⟩
 ·intro S0 hv0 F0 g0 q1 q2 q3 q4 q5 q6 q7
  have hg1:∀k∈ids1,g0 k≠none:=by
   intro k hk;rw[←h1.rsids]at hk;obtain⟨e,he,rfl⟩:=Kx.1 hk;rw[q6 e (Ke _ he)];simp
  obtain⟨r1,r2⟩:=h1.main S0 hv0 F0 g0 q1 (fun b ⟨k,hk,hb⟩=>q2 b ⟨k,h2.vwkeep k hk,hb⟩) (fun k hk=>by rw[q3 k (Ke _ hk)];simp[hk]) (fun k hk b hb=>q4 k (Ke _ hk) b (by simpa[hk]using hb))
   (fun e he hi b hb hn=>q5 e (h2.mpkeep e he) (Ke _ hi) b hb (by simpa[hi]using hn)) (fun e he=>q6 e (Ke _ he)) q7
  obtain⟨r3,r4⟩:=h2.main S0 hv0 F0 g0 q1 q2 (fun k hk=>by rw[q3 k (Kw _ hk)];simp[hno k hk]) (fun k hk b hb=>q4 k (Kw _ hk) b (by simpa[hno k hk]using hb))
   (fun e he hi b hb hn=>q5 e he (Kw _ hi) b hb (by simpa[hno _ hi]using hn)) (fun e he=>q6 e (Kw _ he)) (fun e he hf=>by
    rcases h1.mpnew e he with he'|⟨k1,k2,k3⟩
    ·exact q7 e he' hf
    ·refine⟨?_,hg1 _ k1⟩;rw[q3 _ (Ke _ k1)];simp only[k1,if_true]
     exact k2 hf)
  refine⟨⟨r1,r3⟩,fun e he=> ?_⟩
  rcases Kl.1 he with he|he
  ·exact r2 e he
  ·exact r4 e he
theorem Down.weaken{ids:List Nat}{acc acc1:Acc}{rs:List (Nat×Rg)}{al:Nat→Value}{fl:Nat→Nat→Prop}{R R':(Nat→Prop)→(Nat→Value)→Look→Prop}
  (h:Down w S hv F g gl ids acc acc1 rs al fl R)(hR:∀S0 hv0 g0,R S0 hv0 g0→R' S0 hv0 g0):Down w S hv F g gl ids acc acc1 rs al fl R':=
 {h with main:=fun S0 hv0 F0 g0 q1 q2 q3 q4 q5 q6 q7=>let⟨a,b⟩:=h.main S0 hv0 F0 g0 q1 q2 q3 q4 q5 q6 q7;⟨hR _ _ _ a,b⟩}
theorem Down.row{acc:Acc}{k:Nat}{t:Ty}{dp deep n:Bool}{ys:List (Den t)}{v:Value}{r:Nat}{full:Bool}{rr:Rg}(hr:gl r=some rr)(ho:rr.owns=true)(hf:full=true→v=hv r)(hdp:deep=true→dp=true)(hone:v.oneCell'=true)(hrow:RowB w (ERep w S dp t) (size t) n ys (F r) v):
  ∃fl,Down w S hv F g gl [k] acc (acc.add k r full) [(k,.row t deep n ys)] (fun _=>v) fl (fun S0 hv0 g0=>CRep w S0 hv0 g0 false (.ref k) [v]):=by
 refine⟨fun k' b=>k'=k∧F r b∧(deep=true∨∃o m c,v= .slice (some ⟨b,o,none⟩) m c),?_,?_,?_,?_,rfl,?_,?_,?_⟩
 ·exact fun e he=>K9 _ he
 ·exact fun _ h=>h
 ·intro e he
  rcases Kd.1 he with rfl|he
  ·exact .inr ⟨by simp,fun h=>hf h,rr,hr,ho⟩
  ·exact .inl he
 ·exact fun _ h=> .inl h
 ·intro e he;simp at he;subst he;rfl
 ·rintro k' b ⟨rfl,hb,_⟩
  exact⟨by simp,r,full,by simp[Acc.add],hb⟩
 ·intro S0 hv0 F0 g0 q1 q2 q3 q4 q5 q6 q7;have hv0k:hv0 k=v:=q3 k (by simp);have hg0k:g0 k=some (.row t deep n ys):=q6 (k,.row t deep n ys) (by simp);refine⟨?_,?_⟩
  ·simp only[CRep];exact⟨by rw[hg0k];simp,by rw[hv0k];exact hone,by rw[hv0k]⟩
  ·intro e he;simp at he;subst he;simp only[GRep];rw[hv0k]
   rcases hrow with h|⟨h0,b,o,cap,arr,T,G,h1,h2,h3,h4,h5,h6,h7,h8,h9⟩
   ·exact .inl h
   ·cases hd:deep with
    |true=>
     have hdp':=hdp hd;subst hdp';exact .inr ⟨h0,b,o,cap,arr,T,G,h1,h2,h3,h4,h5,q4 k (by simp) b ⟨rfl,h6,.inl hd⟩,fun i b' hb=>⟨q4 k (by simp) b' ⟨rfl,(h7 i b' hb).1,.inl hd⟩,(h7 i b' hb).2⟩,h8,h9⟩
    |false=>
     refine .inr ⟨h0,b,o,cap,arr,T,fun _ _=>False,h1,h2,h3,h4,h5,q4 k (by simp) b ⟨rfl,h6,.inr ⟨o,_,cap,h1⟩⟩,fun _ _ h=>h.elim,fun _ _ _ h=>h.elim,fun i e he=> ?_⟩;obtain⟨c,m1,m2,m3⟩:=h9 i e he;refine⟨c,m1,m2,?_⟩
     cases dp with
     |false=>exact J9 (fun _ _ _ _ h=>h) q1 _ _ _ _ m3
     |true=>
      refine Jo _ _ _ _ (fun b' hb=> ?_) m3;refine q5 (k,r,full) (by simp[Acc.add]) (by simp) b' (h7 i b' hb).1 ?_
      rintro⟨_,_,h|⟨o',m',c',h⟩⟩
      ·rw[hd]at h;cases h
      ·rw[h1]at h;cases h;exact(h7 i _ hb).2 rfl
theorem Down.map{acc:Acc}{k r:Nat}{kt vt:Ty}{es:List (Den (.pair kt vt))}(hI:Inv w S hv F g)(hl:∀c r,gl c=some r→g c=some r)(hr:gl r=some (.map kt vt es)):
  Down w S hv F g gl [k] acc (acc.add k r true) [(k,.map kt vt es)] (fun _=>hv r) (fun k' b=>k'=k∧F r b) (fun S0 hv0 g0=>CRep w S0 hv0 g0 false (.ref k) [hv r]) where
 mpkeep:=fun e he=>K9 _ he
 vwkeep:=fun _ h=>h
 mpnew:=fun e he=>by
  rcases Kd.1 he with rfl|he
  ·exact .inr ⟨by simp,fun _=>rfl,_,hr,rfl⟩
  ·exact .inl he
 vwnew:=fun _ h=> .inl h
 rsids:=rfl
 rsown:=fun e he=>by simp at he;subst he;rfl
 flin:=fun k' b=>by
  rintro⟨rfl,hb⟩
  exact⟨by simp,r,true,by simp[Acc.add],hb⟩
 main:=fun S0 hv0 F0 g0 q1 q2 q3 q4 q5 q6 q7=>by
  have hv0k:hv0 k=hv r:=q3 k (by simp);have hg0k:g0 k=some (.map kt vt es):=q6 (k,.map kt vt es) (by simp);have hr':=hI.rep r _ (hl _ _ hr);simp only[GRep]at hr';obtain⟨hfl,b,arr,clk,h1,h2,h3,h4,h5⟩:=hr';refine⟨?_,?_⟩
  ·simp only[CRep];exact⟨by rw[hg0k];simp,by rw[hv0k,h1];rfl,by rw[hv0k]⟩
  ·intro e he;simp at he;subst he;simp only[GRep];refine⟨hfl,b,arr,clk,by rw[hv0k,h1],h2,q4 k (by simp) b ⟨rfl,h3⟩,h4,fun i m e h6 h7=> ?_⟩;obtain⟨⟨cs,p1,p2⟩,ds,p3,p4⟩:=h5 i m e h6 h7;exact⟨⟨cs,p1,J9 (fun _ _ _ _ h=>h) q1 _ _ _ _ p2⟩,ds,p3,J9 (fun _ _ _ _ h=>h) q1 _ _ _ _ p4⟩
theorem Down.nilRow{acc:Acc}{k:Nat}{t:Ty}{deep:Bool}:Down w S hv F g gl [k] acc acc [(k,.row t deep true [])] (fun _=> .slice none 0 0) (fun _ _=>False) (fun S0 hv0 g0=>CRep w S0 hv0 g0 false (.ref k) [.slice none 0 0]) where
 mpkeep:=fun _ h=>h
 vwkeep:=fun _ h=>h
 mpnew:=fun _ h=> .inl h
 vwnew:=fun _ h=> .inl h
 rsids:=rfl
 rsown:=fun e he=>by simp at he;subst he;rfl
 flin:=fun _ _ h=>h.elim
 main:=fun S0 hv0 F0 g0 q1 q2 q3 q4 q5 q6 q7=>by
  have hv0k:hv0 k= .slice none 0 0:=q3 k (by simp);have hg0k:g0 k=some (.row t deep true []):=q6 (k,.row t deep true []) (by simp);refine⟨?_,?_⟩
  ·simp only[CRep];exact⟨by rw[hg0k];simp,by rw[hv0k];rfl,by rw[hv0k]⟩
  ·intro e he;simp at he;subst he;simp only[GRep];rw[hv0k];exact .inl ⟨rfl,rfl,rfl⟩
theorem Down.box{acc acc1:Acc}{k r:Nat}{a a':SV}{ids:List Nat}{rs:List (Nat×Rg)}{al:Nat→Value}{fl:Nat→Nat→Prop}(hI:Inv w S hv F g)(hl:∀c r,gl c=some r→g c=some r)(hr:gl r=some (.box a)){arr:Array Value}{bl T:Nat}(hbl:hv r= .pointer (some ⟨bl,0,none⟩))(harr:w.heap[bl]? =some (.cells arr T (0,0)))(hF:F r bl)
  (h:Down w S hv F g gl ids (acc.add k r true) acc1 rs al fl (fun S0 hv0 g0=>CRep w S0 hv0 g0 false a' arr.toList))(hnd:(k::ids).Nodup):
  ∃al fl,Down w S hv F g gl (k::ids) acc acc1 ((k,.box a')::rs) al fl (fun S0 hv0 g0=>CRep w S0 hv0 g0 false (.ptr k []) [.pointer (some ⟨bl,0,none⟩)]):=by
 classical
 rw[K1z]at hnd;have hkm:(k,r,true)∈acc1.mp:=h.mpkeep _ (by simp[Acc.add]);refine⟨fun k'=>if k'=k then hv r else al k',fun k' b=>if k'=k then F r b else fl k' b,?_⟩
 have hno:∀k',k'∈ids→k'≠k:=fun k' hk he=>hnd.1 (he▸hk)
 refine⟨fun e he=>h.mpkeep e (K9 _ he),h.vwkeep,?_,h.vwnew,by simp[h.rsids],?_,?_,?_⟩
 ·intro e he
  rcases h.mpnew e he with he|⟨k1,k2,k3⟩
  ·rcases Kd.1 he with rfl|he
   ·exact .inr ⟨by simp,fun _=>by simp,_,hr,rfl⟩
   ·exact .inl he
  ·exact .inr ⟨K9 _ k1,fun hf=>by simp only[hno _ k1,if_false];exact k2 hf,k3⟩
 ·intro e he
  rcases Kd.1 he with rfl|he
  ·rfl
  ·exact h.rsown e he
 ·intro k' b hb
  by_cases hk:k'=k
  ·subst hk;simp only[if_true]at hb;exact⟨by simp,r,true,hkm,hb⟩
  ·simp only[hk,if_false]at hb;obtain⟨m0,r',f,m1,m2⟩:=h.flin k' b hb;exact⟨K9 _ m0,r',f,m1,m2⟩
 ·intro S0 hv0 F0 g0 q1 q2 q3 q4 q5 q6 q7
  have hv0k:hv0 k=hv r:=by rw[q3 k (by simp)];simp
  have hg0k:g0 k=some (.box a'):=q6 (k,.box a') (by simp)
  obtain⟨r1,r2⟩:=h.main S0 hv0 F0 g0 q1 q2 (fun k' hk=>by rw[q3 k' (K9 _ hk)];simp[hno k' hk]) (fun k' hk b hb=>q4 k' (K9 _ hk) b (by simpa[hno k' hk]using hb))
   (fun e he hi b hb hn=>q5 e he (K9 _ hi) b hb (by simpa[hno _ hi]using hn)) (fun e he=>q6 e (K9 _ he)) (fun e he hf=>by
    rcases Kd.1 he with rfl|he
    ·exact⟨hv0k,by rw[hg0k];simp⟩
    ·exact q7 e he hf)
  refine⟨?_,fun e he=> ?_⟩
  ·simp only[CRep];refine⟨by rw[hg0k];simp,by rw[hv0k,hbl];rfl,by rw[hv0k,hbl];rfl,trivial⟩
  ·rcases Kd.1 he with rfl|he
   ·simp only[GRep];exact⟨bl,arr,T,by rw[hv0k,hbl],harr,q4 k (by simp) bl (by simpa using hF),r1⟩
   ·exact r2 e he
end
end Go.Rf
namespace Go.Rf
section
variable {P:Program} {H:Hints} {w w':World} {S:Nat→Prop} {hv:Nat→Value} {F:Nat→Nat→Prop} {g gl gm:Look}
def Jfb(w:World)(S:Nat→Prop)(hv:Nat→Value)(F:Nat→Nat→Prop)(g gl:Look)(s:SS)(a:SV)(acc acc':Acc)(ds:List D)(m:Bool)(cs:List Value):Prop:=
 ∃sv rs al fl,(∀rest,reb s (ds++rest)=some ⟨sv,rs,rest⟩)∧(m=false→sv.isSt=a.isSt∧sv.isDead=false)∧Down w S hv F g gl s.ids acc acc' rs al fl (fun S0 hv0 g0=>CRep w S0 hv0 g0 m sv cs)
theorem Jgl(hI:Inv w S hv F g)(hl:∀c r,gl c=some r→g c=some r){a:SV}{d:D}{l:List Nat}(h:view gl a=some (d,l)):isAgg d.1=a.isSt:=by
 cases a<;>simp only[view,J17,reduceCtorEq]at h
 case v t x=>simp only[K0,K6]at h;obtain⟨rfl,_⟩:=h;rfl
 case ref c=>
  split at h<;>try (cases h;done)
  ·simp only[K0,K6]at h;obtain⟨rfl,_⟩:=h;rfl
  ·simp only[K0,K6]at h;obtain⟨rfl,_⟩:=h;rfl
  ·rename_i hg;have:=hI.rep c _ (hl _ _ hg);simp only[GRep]at this;obtain⟨⟨u,rfl⟩,_⟩:=this;simp only[K0,K6]at h;obtain⟨rfl,_⟩:=h;rfl
 case sub c sz lo hi=>
  split at h<;>try (cases h;done)
  ·split at h<;>try (cases h;done)
   simp only[K0,K6]at h;obtain⟨rfl,_⟩:=h;rfl
  ·split at h<;>try (cases h;done)
   simp only[K0,K6]at h;obtain⟨rfl,_⟩:=h;rfl
 case one a=>
  split at h<;>try (cases h;done)
  simp only[K0,K6]at h;obtain⟨rfl,_⟩:=h;rfl
 case pair a b=>
  split at h<;>try (cases h;done)
  simp only[K0,K6]at h;obtain⟨rfl,_⟩:=h;rfl
 case clo f caps=>
  split at h<;>try (cases h;done)
  simp only[K0,K6]at h;obtain⟨rfl,_⟩:=h;rfl
theorem Jc8(a:SV):(J6i a).isSt =true∧(J6i a).isDead =false:=by cases a<;>exact⟨rfl,rfl⟩
theorem J9k(a b:SV):(J2q a b).isSt =true∧(J2q a b).isDead =false:=by
 cases a<;>cases b<;>exact⟨rfl,rfl⟩
theorem J5n(hI:Inv w S hv F g)(hl:∀c r,gl c=some r→g c=some r):∀(s:SS) (a:SV) (acc acc':Acc) (ds:List D) (cs:List Value),(ext gl s a acc).run =some (ds,acc')→s.ids.Nodup→s.isAny=false→CRep w S hv g s.isChain a cs→
  Jfb w S hv F g gl s a acc acc' ds s.isChain cs:=by
 have hfail:∀{e:List D×Acc},(M.fail:M (List D×Acc)).run =some e→False:=fun h=>by simp[M.run]at h
 intro s
 induction s with
 |any=>intro a acc acc' ds cs _ _ h;cases h
 |v t=>
  intro a acc acc' ds cs h hnd0 hany0 hc;simp only[SS.isChain]at hc⊢;simp only[ext]at h;split at h
  ·split at h
   ·rename_i u;simp only[M.run,K0,K6]at h;obtain⟨rfl,rfl⟩:=h;refine⟨.v (.sl u) (true,[]),[],_,_,fun _=>rfl,fun _=>⟨rfl,rfl⟩,Down.same fun S0 hv0 g0 _ _=> ?_⟩;simp only[CRep]at hc⊢;subst hc;simp[Rep]
   ·exact(hfail h).elim
  ·split at h
   ·rename_i d l hview;split at h
    ·rename_i x hx;simp only[M.run,K0,K6]at h;obtain⟨rfl,rfl⟩:=h;have:=D_to hx;subst this;refine⟨.v t x,[],_,_,fun _=>rfl,fun _=>⟨Jgl hI hl hview,rfl⟩,Down.see (J3h _ _ _ hview) fun S0 hv0 g0 h1 h2=> ?_⟩;simp only[CRep];exact J2t hI hl a _ l cs hview h1 h2 hc
    ·exact(hfail h).elim
   ·exact(hfail h).elim
 |nl t=>
  intro a acc acc' ds cs h hnd0 hany0 hc;simp only[SS.isChain]at hc⊢;simp only[ext]at h
  have hres:cs=[.slice none 0 0]→a.isSt=false→ds=[]→acc'=acc→Jfb w S hv F g gl (.nl t) a acc acc' ds false cs:=by
   rintro rfl hst rfl rfl
   refine⟨.v (.sl t) (true,[]),[],_,_,fun _=>rfl,fun _=>⟨hst.symm,rfl⟩,Down.same fun S0 hv0 g0 _ _=> ?_⟩;simp[CRep,Rep]
  split at h
  ·simp only[M.run,K0,K6]at h;simp only[CRep]at hc;exact hres hc rfl h.1.symm h.2.symm
  ·rename_i u x;split at h
   ·rename_i y hy;have:=J2n hy;simp only[K24]at this;obtain⟨rfl,hh⟩:=this;have:=eq_of_heq hh;subst this;simp only[M.run]at h
    cases hn:x.1 with
    |false=>simp[hn]at h
    |true=>
     simp only[hn,cond_true,K0,K6]at h;simp only[CRep,Rep]at hc
     rcases hc with⟨_,_,hc⟩|⟨h3,_⟩|⟨h3,_⟩
     ·exact hres hc rfl h.1.symm h.2.symm
     ·rw[hn]at h3;cases h3
     ·rw[hn]at h3;cases h3
   ·exact(hfail h).elim
  ·exact(hfail h).elim
 |sp t=>
  intro a acc acc' ds cs h hnd0 hany0 hc;simp only[SS.isChain]at hc⊢;simp only[ext]at h;split at h
  ·rename_i d l hview;split at h
   ·rename_i x hx;simp only[M.run,K0,K6]at h;obtain⟨rfl,rfl⟩:=h;have:=D_to hx;subst this
    have hcell:a.isSt=false∧∃v,cs=[v]:=by
     cases a<;>simp[J4l]at hview
     ·simp only[CRep]at hc;exact⟨rfl,_,hc.2.1⟩
     ·simp only[CRep]at hc;obtain⟨b,o,c,rfl,_⟩:=hc;exact⟨rfl,_,rfl⟩
    obtain⟨hst,v,rfl⟩:=hcell;refine⟨.sp t x,[],_,_,fun _=>rfl,fun _=>⟨hst.symm,rfl⟩,Down.see ?_ fun S0 hv0 g0 h1 h2=> ?_⟩
    ·exact J7z _ _ _ hview
    ·obtain⟨b,o,c,rfl,k1,k2,k3⟩:=J74 hI hl a _ l v hview h1 h2 hc;simp only[CRep];exact⟨b,o,c,rfl,k1,k2,k3⟩
   ·exact(hfail h).elim
  ·exact(hfail h).elim
 |map k kt vt=>
  intro a acc acc' ds cs h hnd0 hany0 hc;simp only[SS.isChain]at hc⊢;simp only[ext]at h;split at h
  ·rename_i r;split at h
   ·rename_i k' v' es hg;split at h
    ·rename_i ys hy;simp only[M.run,K0,K6]at h;obtain⟨rfl,rfl⟩:=h;have:=J1m hy;simp only[K24]at this;obtain⟨h1,hh⟩:=this
     injection h1 with h1 h2
     subst h1 h2;have:=eq_of_heq hh;subst this;simp only[CRep]at hc;obtain⟨_,_,rfl⟩:=hc;exact⟨.ref k,_,_,_,fun _=>rfl,fun _=>⟨rfl,rfl⟩,Down.map hI hl hg⟩
    ·exact(hfail h).elim
   ·exact(hfail h).elim
  ·exact(hfail h).elim
 |own k t deep=>
  intro a acc acc' ds cs h hnd0 hany0 hc;simp only[SS.isChain]at hc⊢;simp only[ext]at h;split at h
  ·rename_i r;split at h
   ·rename_i u dp n xs hg;split at h
    ·rename_i ys hy;split at h
     ·rename_i hdp;simp only[M.run,K0,K6]at h;obtain⟨rfl,rfl⟩:=h;have:=J1m hy;simp only[K24]at this;obtain⟨rfl,hh⟩:=this;have:=eq_of_heq hh;subst this;have hr:=hI.rep r _ (hl _ _ hg);simp only[GRep]at hr;simp only[CRep]at hc;obtain⟨_,hone,rfl⟩:=hc;obtain⟨fl,hd⟩:=Down.row (w:=w) (S:=S) (hv:=hv) (F:=F) (g:=g) (gl:=gl) (acc:=acc) (k:=k) (r:=r) (full:=true) (deep:=deep) hg rfl (fun _=>rfl) (by intro h;simp[h]at hdp;exact hdp) hone hr;exact⟨.ref k,_,_,fl,fun _=>rfl,fun _=>⟨rfl,rfl⟩,hd⟩
     ·exact(hfail h).elim
    ·exact(hfail h).elim
   ·exact(hfail h).elim
  ·rename_i r sz lo hi;split at h
   ·rename_i u dp n xs hg;split at h
    ·rename_i ys hy;split at h
     ·rename_i hdp;simp only[M.run,K0,K6]at h;obtain⟨rfl,rfl⟩:=h;have:=J1m hy;simp only[K24]at this;obtain⟨rfl,hh⟩:=this;have:=eq_of_heq hh;subst this;simp only[K7,beq_iff_eq]at hdp;obtain⟨hdp,rfl⟩:=hdp;have hr:=hI.rep r _ (hl _ _ hg);simp only[GRep]at hr;simp only[CRep]at hc;obtain⟨_,v,rfl,hs⟩:=hc
      have hone:v.oneCell'=true:=by
       rcases hs with⟨_,rfl,_⟩|⟨b,o,n',cap,o',_,rfl,_⟩<;>rfl
      obtain⟨fl,hd⟩:=Down.row (w:=w) (S:=S) (hv:=hv) (F:=F) (g:=g) (gl:=gl) (acc:=acc) (k:=k) (r:=r) (full:=false) (deep:=deep) hg rfl (fun h=>by cases h) (by intro h;simp[h]at hdp;exact hdp) hone (Jbp hr hs);exact⟨.ref k,_,_,fl,fun _=>rfl,fun _=>⟨rfl,rfl⟩,hd⟩
     ·exact(hfail h).elim
    ·exact(hfail h).elim
   ·exact(hfail h).elim
  ·simp only[M.run,K0,K6]at h;obtain⟨rfl,rfl⟩:=h;simp only[CRep]at hc;subst hc;exact⟨.ref k,_,_,_,fun _=>rfl,fun _=>⟨rfl,rfl⟩,Down.nilRow⟩
  ·rename_i u x;split at h
   ·rename_i y hy;have:=J2n hy;simp only[K24]at this;obtain⟨rfl,hh⟩:=this;have:=eq_of_heq hh;subst this;simp only[M.run]at h
    cases hn:x.1 with
    |false=>simp[hn]at h
    |true=>
     simp only[hn,cond_true,K0,K6]at h;obtain⟨rfl,rfl⟩:=h;simp only[CRep,Rep]at hc
     rcases hc with⟨_,_,rfl⟩|⟨h3,_⟩|⟨h3,_⟩
     ·exact⟨.ref k,_,_,_,fun _=>rfl,fun _=>⟨rfl,rfl⟩,Down.nilRow⟩
     ·rw[hn]at h3;cases h3
     ·rw[hn]at h3;cases h3
   ·exact(hfail h).elim
  ·exact(hfail h).elim
 |box k s ih=>
  intro a acc acc' ds cs h hnd hany0 hc;simp only[SS.isChain]at hc⊢;simp only[ext]at h;split at h
  rotate_left
  ·exact(hfail h).elim
  rename_i r hany;split at h
  rotate_left
  ·exact(hfail h).elim
  rename_i b hg;have hr:=hI.rep r _ (hl _ _ hg);simp only[GRep]at hr;obtain⟨bl,arr,T,e1,e2,e3,e4⟩:=hr;simp only[CRep]at hc;obtain⟨_,rfl,_⟩:=hc;have hnd':=hnd;simp only[SS.ids]at hnd';rw[K1z]at hnd'
  have hch:s.isChain=false:=by
   cases hs:s.isChain with
   |false=>rfl
   |true=>
    exfalso;cases s<;>simp[SS.isChain]at hs
    ·cases b<;>simp[ext,M.run]at h;simp[CRep]at e4
    ·cases b<;>simp[ext,M.run]at h;simp[CRep]at e4
  have:=ih b _ acc' ds arr.toList h hnd'.2 hany (by rw[hch];exact e4);rw[hch]at this;obtain⟨sv,rs,al,fl,k1,k2,k3⟩:=this;obtain⟨al',fl',k4⟩:=Down.box hI hl hg e1 e2 e3 k3 hnd;refine⟨.ptr k [],(k,.box sv)::rs,al',fl',fun rest=> ?_,fun _=>⟨rfl,rfl⟩,?_⟩
  ·simp[reb,k1]
  ·rw[e1];exact k4
 |ref k=>
  intro a acc acc' ds cs h hnd0 hany0 hc;simp only[SS.isChain]at hc⊢;simp only[ext]at h;split at h
  rotate_left
  ·exact(hfail h).elim
  rename_i r;split at h
  rotate_left
  ·exact(hfail h).elim
  rename_i hh;simp only[M.run,K0,K6]at h;obtain⟨rfl,rfl⟩:=h;simp only[CRep]at hc;obtain⟨_,hone,rfl⟩:=hc;refine⟨.ref k,[],_,_,fun _=>rfl,fun _=>⟨rfl,rfl⟩,Down.same fun S0 hv0 g0 _ h2=> ?_⟩;obtain⟨q1,q2⟩:=h2 _ (Acc.has_mem hh) rfl;simp only at q1 q2;simp only[CRep];exact⟨q2,by rw[q1];exact hone,by rw[q1]⟩
 |subr k t=>
  intro a acc acc' ds cs h hnd0 hany0 hc;simp only[SS.isChain]at hc⊢;simp only[ext]at h;split at h
  rotate_left
  ·exact(hfail h).elim
  rename_i r sz lo hi;split at h
  rotate_left
  ·exact(hfail h).elim
  rename_i hh;simp only[M.run,K0,K6]at h;obtain⟨rfl,rfl⟩:=h;rw[K7]at hh;obtain⟨hh,hz⟩:=hh;simp only[CRep]at hc;obtain⟨_,v,rfl,hv1⟩:=hc
  have hz':sz=size t:=by simpa using hz
  refine⟨.sub k sz lo hi,[],_,_,fun _=> ?_,fun _=>⟨rfl,rfl⟩,Down.same fun S0 hv0 g0 _ h2=> ?_⟩
  ·simp[reb,hz']
  obtain⟨q1,q2⟩:=h2 _ (Acc.has_mem hh) rfl;simp only at q1 q2;simp only[CRep];exact⟨q2,v,rfl,by rw[q1];exact hv1⟩
 |ptr k=>
  intro a acc acc' ds cs h hnd0 hany0 hc;simp only[SS.isChain]at hc⊢;simp only[ext]at h;split at h
  rotate_left
  ·exact(hfail h).elim
  rename_i r;split at h
  rotate_left
  ·exact(hfail h).elim
  rename_i hh;simp only[M.run,K0,K6]at h;obtain⟨rfl,rfl⟩:=h;simp only[CRep]at hc;obtain⟨_,rfl,hb,_⟩:=hc;refine⟨.ptr k [],[],_,_,fun _=>rfl,fun _=>⟨rfl,rfl⟩,Down.same fun S0 hv0 g0 _ h2=> ?_⟩;obtain⟨q1,q2⟩:=h2 _ (Acc.has_mem hh) rfl;simp only at q1 q2;simp only[CRep];exact⟨q2,by rw[q1],by rw[q1];exact hb,trivial⟩
 |one s ih=>
  intro a acc acc' ds cs h hnd hany0 hc;simp only[SS.isChain]at hc⊢;simp only[ext]at h
  have hgo:∀b,(ext gl s b acc).run =some (ds,acc')→s.isAny=false→CRep w S hv g false b cs→a.isSt=true→Jfb w S hv F g gl (.one s) a acc acc' ds false cs:=by
   intro b hb hany hcb hst
   have hch:s.isChain=false:=by
    cases hs:s.isChain with
    |false=>rfl
    |true=>
     exfalso;cases s<;>simp[SS.isChain]at hs
     ·cases b<;>simp[ext,M.run]at hb;simp[CRep]at hcb
     ·cases b<;>simp[ext,M.run]at hb;simp[CRep]at hcb
   have:=ih b acc acc' ds cs hb hnd hany (by rw[hch];exact hcb);rw[hch]at this;obtain⟨sv,rs,al,fl,k1,k2,k3⟩:=this;refine⟨J6i sv,rs,al,fl,fun rest=>by simp[reb,k1],fun _=>⟨by rw[(Jc8 sv).1,hst],(Jc8 sv).2⟩,k3.weaken fun S0 hv0 g0 hr=>J4m hr⟩
  split at h
  ·rename_i b hany;simp only[CRep]at hc;exact hgo b h hany hc rfl
  ·rename_i t x hany;simp only[CRep,Rep]at hc;exact hgo (.v t x) h hany (by simpa only[CRep]using hc) rfl
  ·exact(hfail h).elim
 |pair s s' ih ih'=>
  intro a acc acc' ds cs h hnd hany0 hc;simp only[SS.isChain]at hc⊢;simp only[ext]at h;simp only[SS.ids]at hnd;have hnd1:=K19.1 hnd
  have hchain:∀(s:SS) (b:SV) (acc acc':Acc) (ds:List D) (cs:List Value),(ext gl s b acc).run =some (ds,acc')→CRep w S hv g false b cs→s.isChain=false:=by
   intro s b acc acc' ds cs hb hcb
   cases hs:s.isChain with
   |false=>rfl
   |true=>
    exfalso;cases s<;>simp[SS.isChain]at hs
    ·cases b<;>simp[ext,M.run]at hb;simp[CRep]at hcb
    ·cases b<;>simp[ext,M.run]at hb;simp[CRep]at hcb
  have hgo:∀b b' c1 c2,((ext gl s b acc).bind fun r=>(ext gl s' b' r.2).bind fun r'=> .ret (r.1++r'.1,r'.2)).run =some (ds,acc')→(s.isAny||s'.isAny)=false→CRep w S hv g false b c1→CRep w S hv g false b' c2→cs=c1++c2→a.isSt=true→Jfb w S hv F g gl (.pair s s') a acc acc' ds false cs:=by
   rintro b b' c1 c2 hb hany hc1 hc2 rfl hst
   rw[M.run_bind]at hb
   cases h1:(ext gl s b acc).run with
   |none=>simp[h1]at hb
   |some r1=>
    simp only[h1,K1k,M.run_bind]at hb
    cases h2:(ext gl s' b' r1.2).run with
    |none=>simp[h2]at hb
    |some r2=>
     simp only[h2,K1k,M.run,K0,K6]at hb;obtain⟨rfl,rfl⟩:=hb;simp only[Bool.or_eq_false_iff]at hany;have hch1:=hchain s b acc r1.2 r1.1 c1 h1 hc1;have hch2:=hchain s' b' r1.2 r2.2 r2.1 c2 h2 hc2;have t1:=ih b acc r1.2 r1.1 c1 h1 hnd1.1 hany.1 (by rw[hch1];exact hc1);have t2:=ih' b' r1.2 r2.2 r2.1 c2 h2 hnd1.2.1 hany.2 (by rw[hch2];exact hc2);rw[hch1]at t1;rw[hch2]at t2;obtain⟨sv1,rs1,al1,fl1,k1,k2,k3⟩:=t1;obtain⟨sv2,rs2,al2,fl2,m1,m2,m3⟩:=t2;obtain⟨al,fl,hd⟩:=k3.both m3 hnd;refine⟨J2q sv1 sv2,rs1++rs2,al,fl,fun rest=> ?_,fun _=>⟨by rw[(J9k sv1 sv2).1,hst],(J9k sv1 sv2).2⟩,hd.weaken fun S0 hv0 g0 hr=>J26 hr.1 hr.2⟩;simp[reb,Kj,k1,m1]
  split at h
  ·rename_i b b' hany;simp only[CRep]at hc;obtain⟨c1,c2,e,h1,h2⟩:=hc;exact hgo b b' c1 c2 h hany h1 h2 e rfl
  ·rename_i t u x hany;simp only[CRep,Rep]at hc;obtain⟨c1,c2,e,h1,h2⟩:=hc;exact hgo (.v t x.1) (.v u x.2) c1 c2 h hany (by simpa only[CRep]using h1) (by simpa only[CRep]using h2) e rfl
  ·exact(hfail h).elim
 |unit=>
  intro a acc acc' ds cs h hnd0 hany0 hc;simp only[SS.isChain]at hc⊢;simp only[ext]at h;split at h
  ·simp only[M.run,K0,K6]at h;obtain⟨rfl,rfl⟩:=h;refine⟨.unit,[],_,_,fun _=>rfl,(fun h=>by cases h),Down.same fun S0 hv0 g0 _ _=> ?_⟩;simp only[CRep]at hc⊢;exact hc
  ·exact(hfail h).elim
 |tup s s' ih ih'=>
  intro a acc acc' ds cs h hnd hany0 hc;simp only[SS.isChain]at hc⊢;simp only[ext]at h;simp only[SS.ids]at hnd;have hnd1:=K19.1 hnd;split at h
  rotate_left
  ·exact(hfail h).elim
  rename_i b b' hch;simp only[Bool.or_eq_false_iff,Bool.not_eq_false']at hch;rw[M.run_bind]at h
  cases h1:(ext gl s b acc).run with
  |none=>simp[h1]at h
  |some r1=>
   simp only[h1,K1k,M.run_bind]at h
   cases h2:(ext gl s' b' r1.2).run with
   |none=>simp[h2]at h
   |some r2=>
    simp only[h2,K1k,M.run,K0,K6]at h;obtain⟨rfl,rfl⟩:=h;simp only[CRep]at hc;obtain⟨p,r,rfl,hp,hr⟩:=hc
    have hany':s'.isAny=false:=by
     cases s'<;>simp[SS.isChain]at hch<;>rfl
    have t2:=ih' b' r1.2 r2.2 r2.1 r h2 hnd1.2.1 hany' (by rw[hch.2];exact hr);rw[hch.2]at t2;obtain⟨sv2,rs2,al2,fl2,m1,m2,m3⟩:=t2
    have t1:∃sv rs al fl,(∀rest,reb s (r1.1++rest)=some ⟨sv,rs,rest⟩)∧Down w S hv F g gl s.ids acc r1.2 rs al fl (fun S0 hv0 g0=>V0 (CRep w S0 hv0 g0 false sv) sv p):=by
     cases hany:s.isAny with
     |true=>
      cases s<;>simp[SS.isAny]at hany;simp only[ext,M.run,K0]at h1;subst h1;exact⟨.dead,[],_,_,fun _=>rfl,Down.same fun S0 hv0 g0 _ _=> .inl rfl⟩
     |false=>
      have hcell:∃cs,CRep w S hv g false b cs∧((b.isSt=true∧p= .agg cs.toArray)∨(b.isSt=false∧cs=[p])):=by
       rcases hp with hd|⟨k1,cs,k2,k3⟩|⟨k1,k2⟩
       ·exfalso;cases b<;>simp[SV.isDead]at hd<;>cases s<;>simp[SS.isAny,SS.isChain]at hany hch<;>simp[ext,view,J17,J4l,M.run]at h1
       ·exact⟨cs,k3,.inl ⟨k1,k2⟩⟩
       ·exact⟨[p],k2,.inr ⟨k1,rfl⟩⟩
      obtain⟨cs,hcs,hpk⟩:=hcell;have t1:=ih b acc r1.2 r1.1 cs h1 hnd1.1 hany (by rw[hch.1];exact hcs);rw[hch.1]at t1;obtain⟨sv1,rs1,al1,fl1,k1,k2,k3⟩:=t1;obtain⟨k4,k5⟩:=k2 rfl;refine⟨sv1,rs1,al1,fl1,k1,k3.weaken fun S0 hv0 g0 hr=> ?_⟩
      rcases hpk with⟨q1,q2⟩|⟨q1,q2⟩
      ·exact .inr (.inl ⟨by rw[k4,q1],cs,q2,hr⟩)
      ·exact .inr (.inr ⟨by rw[k4,q1],by rw[←q2];exact hr⟩)
    obtain⟨sv1,rs1,al1,fl1,k1,k3⟩:=t1;obtain⟨al,fl,hd⟩:=k3.both m3 hnd;refine⟨.tup sv1 sv2,rs1++rs2,al,fl,fun rest=> ?_,(fun h=>by cases h),hd.weaken fun S0 hv0 g0 hr=> ?_⟩
    ·simp[reb,Kj,k1,m1]
    ·simp only[CRep];exact⟨p,r,rfl,hr.1,hr.2⟩
 |clo f s ih=>
  intro a acc acc' ds cs h hnd hany0 hc;simp only[SS.isChain]at hc⊢;simp only[ext]at h;split at h
  rotate_left
  ·exact(hfail h).elim
  rename_i f' b;split at h
  rotate_left
  ·exact(hfail h).elim
  rename_i hff;simp only[K7,beq_iff_eq]at hff;obtain⟨rfl,hch⟩:=hff;simp only[CRep]at hc;obtain⟨ps,rfl,hps⟩:=hc
  have hany:s.isAny=false:=by cases s<;>simp[SS.isChain]at hch<;>rfl
  have t:=ih b acc acc' ds ps h hnd hany (by rw[hch];exact hps);rw[hch]at t;obtain⟨sv,rs,al,fl,k1,k2,k3⟩:=t;refine⟨.clo f sv,rs,al,fl,fun rest=>by simp[reb,k1],fun _=>⟨rfl,rfl⟩,k3.weaken fun S0 hv0 g0 hr=> ?_⟩;simp only[CRep];exact⟨ps,rfl,hr⟩
end
end Go.Rf
namespace Go.Rf
section
variable {P:Program} {H:Hints} {w w':World} {S:Nat→Prop} {hv:Nat→Value} {F:Nat→Nat→Prop} {g gl gm:Look}
theorem J1f{l:List (Nat×Rg)}{g:Look}{k:Nat}{r:Rg}(h:J5 g l k=some r):(k,r)∈l∨(k∉l.map (·.1)∧g k=some r):=by
 induction l with
 |nil=>exact .inr ⟨by simp,h⟩
 |cons a l ih=>
  obtain⟨k',r'⟩:=a;rw[J7]at h;split at h
  ·rename_i hk;simp at h;subst hk h;exact .inl (by simp)
  ·rename_i hk
   rcases ih h with h|⟨h1,h2⟩
   ·exact .inl (by simp[h])
   ·exact .inr ⟨by simp[hk];simpa using h1,h2⟩
theorem J2s{l:List (Nat×Rg)}{g:Look}{k:Nat}{r:Rg}(hnd:(l.map (·.1)).Nodup)(h:(k,r)∈l):J5 g l k=some r:=by
 induction l with
 |nil=>cases h
 |cons a l ih=>
  obtain⟨k',r'⟩:=a;simp only[K12,K1z]at hnd;rw[J7]
  rcases Kd.1 h with h1|h1
  ·cases h1;simp
  ·split
   ·rename_i hk;subst hk;exact(hnd.1 (Kx.2 ⟨(k,r),h1,rfl⟩)).elim
   ·exact ih hnd.2 h1
theorem J9n{α β:Type}{f:α→β}{l:List α}(h:(l.map f).Nodup){a b:α}(ha:a∈l)(hb:b∈l)(he:f a=f b):a=b:=by
 induction l with
 |nil=>cases ha
 |cons x l ih=>
  simp only[K12,K1z]at h
  rcases Kd.1 ha with h1|h1
  ·rcases Kd.1 hb with h2|h2
   ·rw[h1,h2]
   ·exact(h.1 (Kx.2 ⟨b,h2,by rw[←he,h1]⟩)).elim
  ·rcases Kd.1 hb with h2|h2
   ·exact(h.1 (Kx.2 ⟨a,h1,by rw[he,h2]⟩)).elim
   ·exact ih h.2 h1 h2
theorem Acc.ok_spec{acc:Acc}(h:acc.ok=true):(acc.mp.map fun e=>e.2.1).Nodup ∧∀k∈acc.vw,∀e∈acc.mp,e.2.1≠k:=by
 unfold Acc.ok at h;simp only[K7]at h;refine⟨Ji h.1,fun k hk e he=> ?_⟩;have:=K11.1 h.2 k hk;simp only[K1r,List.any_eq_false,beq_iff_eq]at this;exact this e he
theorem Jbu(hI:Inv w S hv F g){ids:List Nat}{acc:Acc}{rs:List (Nat×Rg)}{al:Nat→Value}{fl:Nat→Nat→Prop}{R:(Nat→Prop)→(Nat→Value)→Look→Prop}
  (hd:Down w S hv F g gl ids ⟨[],[]⟩ acc rs al fl R)(hnd:ids.Nodup)(hok:acc.ok=true):
  ∃S0,Inv w S0 al fl (J5 (fun _=>none) rs)∧R S0 al (J5 (fun _=>none) rs)∧(∀b,S b→S0 b)∧(∀b,S0 b→S b∨FL F acc.vw b∨∃e∈acc.mp,F e.2.1 b)∧
   (∀k b,fl k b→∃r f,(k,r,f)∈acc.mp∧F r b)∧(∀e∈acc.mp,e.1∈ids∧(e.2.2=true→al e.1=hv e.2.1)):=by
 obtain⟨ok1,ok2⟩:=Acc.ok_spec hok
 have hrnd:(rs.map (·.1)).Nodup :=by rw[hd.rsids];exact hnd
 have hent:∀k b,fl k b→∃r f,(k,r,f)∈acc.mp∧F r b:=fun k b h=>(hd.flin k b h).2
 have hsame:∀e∈acc.mp,∀e'∈acc.mp,∀b,F e.2.1 b→F e'.2.1 b→e=e':=fun e he e' he' b h h'=>J9n ok1 he he' (hI.disj _ _ b h h')
 have hmp:∀e∈acc.mp,e.1∈ids∧(e.2.2=true→al e.1=hv e.2.1):=by
  intro e he
  rcases hd.mpnew e he with h|⟨h1,h2,_⟩
  ·cases h
  ·exact⟨h1,h2⟩
 obtain⟨m1,m2⟩:=hd.main (fun b=>S b∨FL F acc.vw b∨∃e∈acc.mp,F e.2.1 b∧¬fl e.1 b) al fl (J5 (fun _=>none) rs) (fun _ h=> .inl h) (fun _ h=> .inr (.inl h)) (fun _ _=>rfl) (fun _ _ _ h=>h)
  (fun e he _ b hb hn=> .inr (.inr ⟨e,he,hb,hn⟩)) (fun e he=>J2s hrnd he) (fun e he=>by cases he)
 refine⟨fun b=>S b∨FL F acc.vw b∨∃e∈acc.mp,F e.2.1 b∧¬fl e.1 b,⟨?_,?_,?_,?_,?_,?_⟩,m1,fun _ h=> .inl h,?_,hent,hmp⟩
 ·intro c r hr
  rcases J1f hr with h|⟨_,h⟩
  ·exact m2 _ h
  ·cases h
 ·intro c b hb;have hk:=(hd.flin c b hb).1;rw[←hd.rsids]at hk;obtain⟨e,he,rfl⟩:=Kx.1 hk;exact⟨e.2,J2s hrnd he,hd.rsown e he⟩
 ·intro c c' b hb hb';obtain⟨r,f,h1,h2⟩:=hent c b hb;obtain⟨r',f',h3,h4⟩:=hent c' b hb';have:=hsame _ h1 _ h3 b h2 h4;simp at this;exact this.1
 ·intro c b hb hs;obtain⟨r,f,h1,h2⟩:=hent c b hb
  rcases hs with h|⟨k,hk,hkb⟩|⟨e,he,heb,hn⟩
  ·exact hI.shr r b h2 h
  ·exact ok2 k hk _ h1 (hI.disj r k b h2 hkb)
  ·have:=hsame _ h1 _ he b h2 heb;subst this;exact hn hb
 ·intro c b hb;obtain⟨r,f,h1,h2⟩:=hent c b hb;exact hI.old r b h2
 ·rintro b (h|⟨k,hk,hkb⟩|⟨e,he,heb,_⟩)
  ·exact hI.sold b h
  ·exact hI.old k b hkb
  ·exact hI.old _ b heb
 ·rintro b (h|h|⟨e,he,heb,_⟩)
  ·exact .inl h
  ·exact .inr (.inl h)
  ·exact .inr (.inr ⟨e,he,heb⟩)
end
end Go.Rf
namespace Go.Rf
section
variable {P:Program} {H:Hints} {w w':World} {S:Nat→Prop} {hv:Nat→Value} {F:Nat→Nat→Prop} {g gl gm:Look}
theorem Jep(d:D)(ds:List D):pack [] (d::ds)=none:=rfl
theorem Jeq(t:Ty):pack [t] []=none:=rfl
theorem Jer(t:Ty)(d:D):pack [t] [d]=d.to t:=rfl
theorem Jes(t:Ty)(d e:D)(ds:List D):pack [t] (d::e::ds)=none:=rfl
theorem Jet(t u:Ty)(ts:List Ty):pack (t::u::ts) []=none:=rfl
theorem Jeu(t u:Ty)(ts:List Ty)(d:D)(ds:List D):pack (t::u::ts) (d::ds)=(match d.to t,pack (u::ts) ds with
   |some x,some y=>some ((x,y):Den t×Den (tyOf (u::ts)))
   |_,_=>none):=rfl
theorem Jfn{α β:Type}{p:α}{q:β}{x:α×β}(h:some (p,q)=some x):x=(p,q):=by simpa using h.symm
theorem J14(ts:List Ty):∀(ds:List D) (x:Den (tyOf ts)),pack ts ds=some x→J11 ts x=ds:=by
 induction ts with
 |nil=>
  intro ds x h
  cases ds with
  |nil=>rfl
  |cons d ds=>rw[Jep]at h;exact absurd h (by simp)
 |cons t ts ih=>
  cases ts with
  |nil=>
   intro ds x h
   match ds,h with
   |[],h=>rw[Jeq]at h;exact absurd h (by simp)
   |[d],h=>
    rw[Jer]at h;have:=D_to (t:=t) (x:=x) h;subst this;rfl
   |_::_::_,h=>rw[Jes]at h;exact absurd h (by simp)
  |cons u ts=>
   intro ds x h
   cases ds with
   |nil=>rw[Jet]at h;exact absurd h (by simp)
   |cons d ds=>
    rw[Jeu]at h
    cases hy:d.to t with
    |none=>simp[hy]at h
    |some y=>
     cases hz:pack (u::ts) ds with
     |none=>simp[hy,hz]at h
     |some z=>
      simp only[hy,hz]at h;have hx:=Jfn h;subst hx;have:=D_to hy;subst this;show⟨t,y⟩::J11 (u::ts) z=_;rw[ih ds z hz]
theorem Jfi(hI:Inv w S hv F g)(hl:∀c r,gl c=some r→g c=some r){s:SS}{a:SV}{v:Value}{acc acc':Acc}{ds:List D}(h:(ext gl s a acc).run =some (ds,acc'))(hnd:s.ids.Nodup)(ha:s.isAny=false→VR w S hv g a v):
  ∃sv rs al fl,(∀rest,reb s (ds++rest)=some ⟨sv,rs,rest⟩)∧Down w S hv F g gl s.ids acc acc' rs al fl (fun S0 hv0 g0=>VR w S0 hv0 g0 sv v):=by
 cases hany:s.isAny with
 |true=>
  cases s<;>simp[SS.isAny]at hany;simp only[ext,M.run,K0,K6]at h;obtain⟨rfl,rfl⟩:=h;exact⟨.dead,[],_,_,fun _=>rfl,Down.same fun S0 hv0 g0 _ _=>trivial⟩
 |false=>
  replace ha:=ha hany
  cases hch:s.isChain with
  |true=>
   have hc:∃vs:List Value,v= .tuple vs.toArray∧CRep w S hv g true a vs:=by
    cases s<;>simp[SS.isChain]at hch
    ·cases a<;>simp[ext,M.run]at h;exact⟨[],ha,by simp only[CRep]⟩
    ·cases a<;>simp[ext,M.run]at h;exact ha
   obtain⟨vs,rfl,hc⟩:=hc;have t:=J5n hI hl s a acc acc' ds vs h hnd hany (by rw[hch];exact hc);rw[hch]at t;obtain⟨sv,rs,al,fl,k1,_,k3⟩:=t;refine⟨sv,rs,al,fl,k1,k3.weaken fun S0 hv0 g0 hr=> ?_⟩
   have hsv:sv= .unit ∨∃x y,sv= .tup x y:=by
    have:=k1 [];cases s<;>simp[SS.isChain]at hch
    ·simp[reb]at this;exact .inl this.1.symm
    ·simp only[reb]at this
     split at this<;>try (cases this;done)
     split at this<;>try (cases this;done)
     simp only[K0,Reb.mk.injEq]at this;exact .inr ⟨_,_,this.1.symm⟩
   rcases hsv with rfl|⟨x,y,rfl⟩
   ·simp only[CRep]at hr;subst hr;rfl
   ·exact⟨vs,rfl,hr⟩
  |false=>
   have hcell:∃cs,CRep w S hv g false a cs∧((a.isSt=true∧v= .agg cs.toArray)∨(a.isSt=false∧cs=[v])):=by
    have hbad:a.isDead=true→False:=by
     intro hd;cases a<;>simp[SV.isDead]at hd<;>cases s<;>simp[SS.isAny,SS.isChain]at hany hch<;>simp[ext,view,J17,J4l,M.run]at h
    have hp:V0 (CRep w S hv g false a) a v:=by
     cases a<;>first|exact ha|exact(hbad rfl).elim
    rcases hp with hd|⟨k1,cs,k2,k3⟩|⟨k1,k2⟩
    ·exact(hbad hd).elim
    ·exact⟨cs,k3,.inl ⟨k1,k2⟩⟩
    ·exact⟨[v],k2,.inr ⟨k1,rfl⟩⟩
   obtain⟨cs,hcs,hpk⟩:=hcell;have t:=J5n hI hl s a acc acc' ds cs h hnd hany (by rw[hch];exact hcs);rw[hch]at t;obtain⟨sv,rs,al,fl,k1,k2,k3⟩:=t;obtain⟨k4,k5⟩:=k2 rfl;refine⟨sv,rs,al,fl,k1,k3.weaken fun S0 hv0 g0 hr=> ?_⟩
   have hV:V0 (CRep w S0 hv0 g0 false sv) sv v:=by
    rcases hpk with⟨q1,q2⟩|⟨q1,q2⟩
    ·exact .inr (.inl ⟨by rw[k4,q1],cs,q2,hr⟩)
    ·exact .inr (.inr ⟨by rw[k4,q1],by rw[←q2];exact hr⟩)
   cases sv<;>first|exact hV|(simp[SV.isDead]at k5)
theorem J4c(hI:Inv w S hv F g)(hl:∀c r,gl c=some r→g c=some r){slot:Nat→SV}{val:Nat→Value}:∀(l:List (Nat×SS)) (acc acc':Acc) (ds:List D),(extF gl slot l acc).run =some (ds,acc')→(l.flatMap fun y=>y.2.ids).Nodup →(∀y∈l,y.2.isAny=false→(∃acc r,(ext gl y.2 (slot y.1) acc).run =some r)→VR w S hv g (slot y.1) (val y.1))→
  ∃sl rs al fl,rebF l ds=some ⟨sl,rs⟩∧sl.map (·.1)=l.map (·.1)∧Down w S hv F g gl (l.flatMap fun y=>y.2.ids) acc acc' rs al fl (fun S0 hv0 g0=>∀e∈sl,VR w S0 hv0 g0 e.2 (val e.1))
 |[],acc,acc',ds,h,_,_=>by
  simp only[extF,M.run,K0,K6]at h;obtain⟨rfl,rfl⟩:=h;exact⟨[],[],_,_,rfl,rfl,Down.same fun S0 hv0 g0 _ _ e he=>by cases he⟩
 |(i,s)::l,acc,acc',ds,h,hnd,ha=>by
  simp only[extF,M.run_bind]at h
  cases h1:(ext gl s (slot i) acc).run with
  |none=>simp[h1]at h
  |some r1=>
   simp only[h1,K1k,M.run_bind]at h
   cases h2:(extF gl slot l r1.2).run with
   |none=>simp[h2]at h
   |some r2=>
    simp only[h2,K1k,M.run,K0,K6]at h;obtain⟨rfl,rfl⟩:=h;simp only[K18]at hnd;have hnd1:=K19.1 hnd;obtain⟨sv,rs1,al1,fl1,k1,k3⟩:=Jfi hI hl h1 hnd1.1 (fun hn=>ha (i,s) (by simp) hn ⟨_,_,h1⟩);obtain⟨sl,rs2,al2,fl2,m1,m2,m3⟩:=J4c hI hl l r1.2 r2.2 r2.1 h2 hnd1.2.1 (fun y hy=>ha y (K9 _ hy));obtain⟨al,fl,hd⟩:=k3.both m3 hnd;refine⟨(i,sv)::sl,rs1++rs2,al,fl,?_,by simp[m2],?_⟩
    ·simp[rebF,k1,m1]
    ·simp only[K18]
     refine hd.weaken fun S0 hv0 g0 hr e he=> ?_
     rcases Kd.1 he with rfl|he
     ·exact hr.1
     ·exact hr.2 e he
end
end Go.Rf
namespace Go.Rf
section
variable {w:World} {S S':Nat→Prop} {hv:Nat→Value} {F:Nat→Nat→Prop} {g:Look}
def J2m:(t:Ty)→Den t→Bool
 | .int _,_=>true
 | .bool,_=>true
 | .nil,_=>true
 | .one a,x=>J2m a x
 | .pair a b,x=>J2m a x.1&&J2m b x.2
 | .sl _,x=>x.1
 | .fn _ _,_=>false
 | .hsl _,_=>false
theorem Jdo{w':World}:∀(t:Ty) (x:Den t) (cs:List Value),J2m t x=true→Rep w S false t x cs→Rep w' S' false t x cs:=by
 intro t
 induction t with
 |int k=>intro x cs _ h;simpa only[Rep]using h
 |bool=>intro x cs _ h;simpa only[Rep]using h
 |nil=>intro x cs _ h;simpa only[Rep]using h
 |one a ih=>intro x cs h1 h;exact ih x cs h1 h
 |pair a b iha ihb=>
  intro x cs h1 h;simp only[J2m,K7]at h1;simp only[Rep]at h⊢;obtain⟨c,d,e,h2,h3⟩:=h;exact⟨c,d,e,iha _ _ h1.1 h2,ihb _ _ h1.2 h3⟩
 |sl t ih=>
  intro x cs h1 h;simp only[J2m]at h1;simp only[Rep]at h⊢
  rcases h with h|⟨h,_⟩|h
  ·exact .inl h
  ·rw[h1]at h;cases h
  ·exact .inr (.inr h)
 |fn f c ih=>intro x cs h;simp[J2m]at h
 |hsl t ih=>intro x cs h;simp[J2m]at h
theorem Jcv:∀(t:Ty) (x:Den t),flat t=true→J2m t x=true:=by
 intro t
 induction t with
 |one a ih=>intro x h;exact ih x h
 |pair a b iha ihb=>intro x h;simp only[flat,K7]at h;simp[J2m,iha _ h.1,ihb _ h.2]
 |sl t ih=>intro x h;simp[flat]at h
 |fn f c ih=>intro x h;simp[flat]at h
 |hsl t ih=>intro x h;simp[flat]at h
 |_=>intro x _;rfl
def Jh:SV→Bool
 | .v t x=>J2m t x
 | .sp _ _=>false
 | .one a=>Jh a
 | .pair a b=>Jh a&&Jh b
 | .tup a b=>Jh a&&Jh b
 | .clo _ a=>Jh a
 |_=>true
theorem J7c:∀(a:SV) (m:Bool) (cs:List Value),Jh a=true→CRep w S hv g m a cs→CRep w S' hv g m a cs:=by
 intro a
 induction a with
 |v t x=>intro m cs ha h;cases m<;>simp only[CRep]at h⊢;exact Jdo _ _ _ ha h
 |sp t x=>intro m cs ha;simp[Jh]at ha
 |one a ih=>intro m cs ha h;cases m<;>simp only[CRep]at h⊢;exact ih _ _ ha h
 |pair a b iha ihb=>
  intro m cs ha h;simp only[Jh,K7]at ha;cases m<;>simp only[CRep]at h⊢;obtain⟨c,d,e,h1,h2⟩:=h;exact⟨c,d,e,iha _ _ ha.1 h1,ihb _ _ ha.2 h2⟩
 |tup a b iha ihb=>
  intro m cs ha h;simp only[Jh,K7]at ha;cases m<;>simp only[CRep]at h⊢;obtain⟨p,r,e,h1,h2⟩:=h;exact⟨p,r,e,Jaa (fun cs h=>iha _ _ ha.1 h) h1,ihb _ _ ha.2 h2⟩
 |clo f a ih=>
  intro m cs ha h;cases m<;>simp only[CRep]at h⊢;obtain⟨ps,e,h1⟩:=h;exact⟨ps,e,ih _ _ ha h1⟩
 |dead=>intro m cs _ h;cases m<;>simp only[CRep]at h
 |ref c=>intro m cs _ h;cases m<;>simp only[CRep]at h⊢;exact h
 |sub c sz lo hi=>intro m cs _ h;cases m<;>simp only[CRep]at h⊢;exact h
 |ptr c p=>intro m cs _ h;cases m<;>simp only[CRep]at h⊢;exact h
 |unit=>intro m cs _ h;cases m<;>simp only[CRep]at h⊢;exact h
 |nilv=>intro m cs _ h;cases m<;>simp only[CRep]at h⊢;exact h
def J3d:Rg→Bool
 | .row t dp _ _=>dp||flat t
 | .box a=>Jh a
 | .map _ _ _=>true
 |_=>false
theorem Jcl{k:Nat}{r:Rg}(ha:J3d r=true)(h:GRep w S hv g F k r):GRep w S' hv g F k r:=by
 cases r<;>simp[J3d]at ha
 ·rename_i t dp n xs;simp only[GRep]at h⊢;refine J1g (fun _ h=>h) (fun _ _=>rfl) (fun e G cs _ he=> ?_) h
  cases dp with
  |true=>exact he
  |false=>
   simp at ha;exact J5m _ _ _ ha he
 ·simp only[GRep]at h⊢;obtain⟨b,arr,T,h1,h2,h3,h4⟩:=h;exact⟨b,arr,T,h1,h2,h3,J7c _ _ _ ha h4⟩
 ·rename_i k v es;simp only[GRep]at h⊢;obtain⟨hfl,b,arr,clk,h1,h2,h3,h4,h5⟩:=h;refine⟨hfl,b,arr,clk,h1,h2,h3,h4,fun i m e h6 h7=> ?_⟩;obtain⟨⟨cs,p1,p2⟩,ds,p3,p4⟩:=h5 i m e h6 h7;exact⟨⟨cs,p1,J5m _ _ _ hfl.1 p2⟩,ds,p3,J5m _ _ _ hfl.2 p4⟩
end
end Go.Rf
namespace Go.Rf
theorem J3g(ts:List Ty):∀x:Den (tyOf ts),(J11 ts x).map (·.1)=ts:=by
 induction ts with
 |nil=>intro x;rfl
 |cons t ts ih=>
  cases ts with
  |nil=>intro x;rfl
  |cons u ts=>
   intro x;show t::(J11 (u::ts) x.2).map (·.1)=_;rw[ih]
theorem Jag{a:SV}(h:Jh a=true):Jh (J6i a)=true:=by cases a<;>simpa[J6i,Jh,J2m]using h
theorem J92{a b:SV}(h:Jh a=true)(h':Jh b=true):Jh (J2q a b)=true:=by
 cases a<;>cases b<;>simp_all [J2q,Jh,J2m]
theorem J9p:∀(s:SS) (ds rest:List D) (ts:List Ty) (sv:SV) (rs:List (Nat×Rg)),shared s=false→reb s ds=some ⟨sv,rs,rest⟩→ds.map (·.1)=s.tys++ts→Jh sv=true∧(∀e∈rs,J3d e.2=true)∧rest.map (·.1)=ts:=by
 intro s
 induction s with
 |any=>intro ds rest ts sv rs _ h ht;simp[reb]at h;obtain⟨rfl,rfl,rfl⟩:=h;exact⟨rfl,by simp,by simpa[SS.tys]using ht⟩
 |v t=>
  intro ds rest ts sv rs hs h ht
  cases ds with
  |nil=>simp[reb]at h
  |cons d ds=>
   simp[reb]at h;obtain⟨rfl,rfl,rfl⟩:=h;simp[SS.tys]at ht;simp[shared]at hs;exact⟨by simp only[Jh];exact Jcv _ _ (by rw[ht.1];exact hs),by simp,by simpa using ht.2⟩
 |nl t=>intro ds rest ts sv rs _ h ht;simp[reb]at h;obtain⟨rfl,rfl,rfl⟩:=h;exact⟨rfl,by simp,by simpa[SS.tys]using ht⟩
 |sp t=>intro ds rest ts sv rs hs;simp[shared]at hs
 |own c t deep=>
  intro ds rest ts sv rs hs h ht
  cases ds with
  |nil=>simp[reb]at h
  |cons d ds=>
   obtain⟨u,x⟩:=d;simp[SS.tys]at ht;obtain⟨rfl,ht⟩:=ht;simp[reb]at h;obtain⟨rfl,rfl,rfl⟩:=h;simp[shared]at hs;refine⟨rfl,?_,by simpa using ht⟩;intro e he;simp at he;subst he;simp[J3d];cases deep<;>simp_all
 |map c kt vt=>
  intro ds rest ts sv rs hs h ht
  cases ds with
  |nil=>simp[reb]at h
  |cons d ds=>
   obtain⟨u,x⟩:=d;simp[SS.tys]at ht;obtain⟨rfl,ht⟩:=ht;simp[reb]at h;obtain⟨rfl,rfl,rfl⟩:=h;refine⟨rfl,?_,by simpa using ht⟩;intro e he;simp at he;subst he;rfl
 |ref k=>intro ds rest ts sv rs _ h ht;simp[reb]at h;obtain⟨rfl,rfl,rfl⟩:=h;exact⟨rfl,by simp,by simpa[SS.tys]using ht⟩
 |subr k t=>
  intro ds rest ts sv rs _ h ht
  match ds with
  |[]=>simp[reb]at h
  |[d]=>obtain⟨u,x⟩:=d;cases u<;>simp[reb]at h
  |d::e::ds=>
   obtain⟨u,x⟩:=d;obtain⟨u',y⟩:=e;simp[SS.tys]at ht;obtain⟨rfl,rfl,ht⟩:=ht;simp[reb]at h;obtain⟨rfl,rfl,rfl⟩:=h;exact⟨rfl,by simp,by simpa using ht⟩
 |ptr k=>intro ds rest ts sv rs _ h ht;simp[reb]at h;obtain⟨rfl,rfl,rfl⟩:=h;exact⟨rfl,by simp,by simpa[SS.tys]using ht⟩
 |unit=>intro ds rest ts sv rs _ h ht;simp[reb]at h;obtain⟨rfl,rfl,rfl⟩:=h;exact⟨rfl,by simp,by simpa[SS.tys]using ht⟩
 |clo f s ih=>intro ds rest ts sv rs hs;simp[shared]at hs
 |one s ih=>
  intro ds rest ts sv rs hs h ht;simp only[reb]at h
  split at h<;>try (cases h;done)
  rename_i r hr;simp only[K0,Reb.mk.injEq]at h;obtain⟨rfl,rfl,rfl⟩:=h;obtain⟨h1,h2,h3⟩:=ih ds r.rest ts r.sv r.rs (by simpa[shared]using hs) hr (by simpa[SS.tys]using ht);exact⟨Jag h1,h2,h3⟩
 |box k s ih=>
  intro ds rest ts sv rs hs h ht;simp only[reb]at h
  split at h<;>try (cases h;done)
  rename_i r hr;simp only[K0,Reb.mk.injEq]at h;obtain⟨rfl,rfl,rfl⟩:=h;obtain⟨h1,h2,h3⟩:=ih ds r.rest ts r.sv r.rs (by simpa[shared]using hs) hr (by simpa[SS.tys]using ht);refine⟨rfl,?_,h3⟩;intro e he
  rcases Kd.1 he with rfl|he
  ·exact h1
  ·exact h2 e he
 |pair s s' ih ih'=>
  intro ds rest ts sv rs hs h ht;simp only[reb]at h
  split at h<;>try (cases h;done)
  rename_i r hr
  split at h<;>try (cases h;done)
  rename_i r' hr';simp only[K0,Reb.mk.injEq]at h;obtain⟨rfl,rfl,rfl⟩:=h;simp[shared]at hs;simp only[SS.tys,Kj]at ht;obtain⟨h1,h2,h3⟩:=ih ds r.rest _ r.sv r.rs hs.1 hr ht;obtain⟨h4,h5,h6⟩:=ih' r.rest r'.rest _ r'.sv r'.rs hs.2 hr' h3;refine⟨J92 h1 h4,fun e he=> ?_,h6⟩
  rcases Kl.1 he with he|he
  ·exact h2 e he
  ·exact h5 e he
 |tup s s' ih ih'=>
  intro ds rest ts sv rs hs h ht;simp only[reb]at h
  split at h<;>try (cases h;done)
  rename_i r hr
  split at h<;>try (cases h;done)
  rename_i r' hr';simp only[K0,Reb.mk.injEq]at h;obtain⟨rfl,rfl,rfl⟩:=h;simp[shared]at hs;simp only[SS.tys,Kj]at ht;obtain⟨h1,h2,h3⟩:=ih ds r.rest _ r.sv r.rs hs.1 hr ht;obtain⟨h4,h5,h6⟩:=ih' r.rest r'.rest _ r'.sv r'.rs hs.2 hr' h3;refine⟨by simp[Jh,h1,h4],fun e he=> ?_,h6⟩
  rcases Kl.1 he with he|he
  ·exact h2 e he
  ·exact h5 e he
end Go.Rf
namespace Go.Rf
section
variable {w:World} {S:Nat→Prop} {hv hv':Nat→Value} {g g':Look} {f:Nat→Nat}
theorem Jcf(a:SV):(a.ren f).isSt =a.isSt∧(a.ren f).isDead =a.isDead∧(a.ren f).size =a.size:=by
 induction a with
 |one a ih=>exact⟨rfl,rfl,by simp[SV.ren,SV.size,ih.2.2]⟩
 |pair a b iha ihb=>exact⟨rfl,rfl,by simp[SV.ren,SV.size,iha.2.2,ihb.2.2]⟩
 |_=>exact⟨rfl,rfl,rfl⟩
theorem Jbk(h:∀c,g c≠none→g' (f c)≠none∧hv' (f c)=hv c∧∀n,glen g' (f c)=some n→glen g c=some n):∀(a:SV) (m:Bool) (cs:List Value),CRep w S hv g m a cs→CRep w S hv' g' m (a.ren f) cs:=by
 intro a
 induction a with
 |dead=>intro m cs hc;cases m<;>simp only[CRep]at hc
 |v t x=>intro m cs hc;cases m<;>simp only[CRep,SV.ren]at hc⊢;exact hc
 |ref c=>intro m cs hc;cases m<;>simp only[CRep,SV.ren]at hc⊢;obtain⟨h1,h2,h3⟩:=hc;obtain⟨k1,k2,_⟩:=h c h1;exact⟨k1,by rw[k2];exact h2,by rw[k2];exact h3⟩
 |sub c sz lo hi=>intro m cs hc;cases m<;>simp only[CRep,SV.ren]at hc⊢;obtain⟨h1,h2⟩:=hc;obtain⟨k1,k2,_⟩:=h c h1;exact⟨k1,by rw[k2];exact h2⟩
 |ptr c p=>
  intro m cs hc;cases m<;>simp only[CRep,SV.ren]at hc⊢;obtain⟨h1,h2,h3,h4⟩:=hc;obtain⟨k1,k2,k3⟩:=h c h1;refine⟨k1,by rw[k2];exact h2,by rw[k2];exact h3,?_⟩;unfold J3w at h4⊢;split at h4
  ·intro n hn;exact h4 n (k3 n hn)
  ·trivial
 |sp t x=>intro m cs hc;cases m<;>simp only[CRep,SV.ren]at hc⊢;exact hc
 |one a ih=>intro m cs hc;cases m<;>simp only[CRep,SV.ren]at hc⊢;exact ih _ _ hc
 |pair a b iha ihb=>
  intro m cs hc;cases m<;>simp only[CRep,SV.ren]at hc⊢;obtain⟨c,d,e,h1,h2⟩:=hc;exact⟨c,d,e,iha _ _ h1,ihb _ _ h2⟩
 |unit=>intro m cs hc;cases m<;>simp only[CRep,SV.ren]at hc⊢;exact hc
 |tup a b iha ihb=>
  intro m cs hc;cases m<;>simp only[CRep,SV.ren]at hc⊢;obtain⟨p,r,e,h1,h2⟩:=hc;refine⟨p,r,e,?_,ihb _ _ h2⟩;obtain⟨s1,s2,_⟩:=Jcf (f:=f) a
  rcases h1 with h1|⟨h1,cs,h3,h4⟩|⟨h1,h3⟩
  ·exact .inl (by rw[s2];exact h1)
  ·exact .inr (.inl ⟨by rw[s1];exact h1,cs,h3,iha _ _ h4⟩)
  ·exact .inr (.inr ⟨by rw[s1];exact h1,iha _ _ h3⟩)
 |clo f' a ih=>
  intro m cs hc;cases m<;>simp only[CRep,SV.ren]at hc⊢;obtain⟨ps,e,h1⟩:=hc;exact⟨ps,e,ih _ _ h1⟩
 |nilv=>intro m cs hc;cases m<;>simp only[CRep,SV.ren]at hc⊢;exact hc
end
end Go.Rf
namespace Go.Rf
section
variable {w w':World} {S S':Nat→Prop} {hv hv':Nat→Value} {F F':Nat→Nat→Prop} {g g' gl:Look}
theorem Jax(hI:Inv w S hv F g)(hl:∀c r,gl c=some r→g c=some r){c:Nat}{r0:Rg}(h0:gl c=some r0)(hx:Ext w S hv g w' S' hv' g')(hh:hv' c=hv c)
  (hsame:∀b,F c b→w'.heap[b]? =w.heap[b]?)(hFS:∀b,F c b→S' b):GRep w' S' hv' g' F' c (J20 gl r0):=by
 have hg0:=hI.rep c r0 (hl _ _ h0);unfold J20;split
 ·rename_i t dp n xs;simp only[GRep]at hg0⊢;refine⟨⟨t,rfl⟩,?_⟩;rw[hh];refine J3i (S:=S') (dp:=dp) (Fc:=F c) (fun _ h=>h) hFS (J1g (fun _ h=>h) hsame (fun e G cs hG he=> ?_) hg0);cases dp
  ·exact J9 hx.keep hx.sub _ _ _ _ he
  ·exact Jm _ _ _ _ _ (fun _ h=>h) (fun b hb=>hsame b (hG b hb)) he
 ·rename_i a;split
  ·rename_i d' hv0;simp only[GRep]at hg0⊢;obtain⟨b,arr,T,e1,e2,e3,e4⟩:=hg0;refine⟨b,arr.toList,by rw[hh,e1],hFS b e3,?_,?_⟩
   ·intro j u hj;simp only[K1o,World.cell?,hsame b e3,e2];simpa using hj
   ·have:=J36 hI hl _ _ _ _ hv0 (fun _ h=>h) (fun b ⟨k,hk,_⟩=>by cases hk) e4;exact J9 hx.keep hx.sub _ _ _ _ this
  ·simp only[GRep]
 ·simp only[GRep]
 ·simp only[GRep]
 ·rename_i h2 h3 h4 h5
  cases r0 with
  |map k v es=>exact absurd rfl (h5 _ _ _)
  |row t dp n xs=>exact absurd rfl (h2 _ _ _ _)
  |rowl t n xs i q d=>exact absurd rfl (h4 _ _ _ _ _ _)
  |box a=>exact absurd rfl (h3 _)
  |fz t x=>
   simp only[GRep]at hg0⊢;exact⟨hg0.1,by rw[hh];exact J9 hx.keep hx.sub _ _ _ _ hg0.2⟩
  |fzb t x=>
   simp only[GRep]at hg0⊢;obtain⟨b,cs,e1,e2,e3,e4⟩:=hg0;exact⟨b,cs,by rw[hh,e1],hx.sub _ e2,J40 hx.keep e2 e3,J9 hx.keep hx.sub _ _ _ _ e4⟩
  |gone=>simp only[GRep]
def Rg.isRB:Rg→Bool
 | .row _ _ _ _=>true
 | .box _=>true
 | .map _ _ _=>true
 |_=>false
theorem J6p:∀(s:SS) (ds:List D) (r:Reb),reb s ds=some r→r.rs.map (·.1)=s.ids∧∀e∈r.rs,e.2.isRB=true:=by
 intro s
 induction s with
 |any=>intro ds r h;simp[reb]at h;subst h;exact⟨rfl,by simp⟩
 |v t=>intro ds r h;cases ds<;>simp[reb]at h;subst h;exact⟨rfl,by simp⟩
 |nl t=>intro ds r h;simp[reb]at h;subst h;exact⟨rfl,by simp⟩
 |sp t=>intro ds r h;cases ds<;>simp[reb]at h;subst h;exact⟨rfl,by simp⟩
 |own c t deep=>
  intro ds r h
  cases ds with
  |nil=>simp[reb]at h
  |cons d ds=>
   obtain⟨u,x⟩:=d;cases u<;>simp[reb]at h;subst h;exact⟨rfl,by simp[Rg.isRB]⟩
 |map c kt vt=>
  intro ds r h
  cases ds with
  |nil=>simp[reb]at h
  |cons d ds=>
   obtain⟨u,x⟩:=d
   cases u with
   |sl u'=>
    cases u'<;>simp[reb]at h;subst h;exact⟨rfl,by simp[Rg.isRB]⟩
   |_=>simp[reb]at h
 |ref k=>intro ds r h;simp[reb]at h;subst h;exact⟨rfl,by simp⟩
 |subr k t=>
  intro ds r h
  match ds with
  |[]=>simp[reb]at h
  |[d]=>obtain⟨u,x⟩:=d;simp[reb]at h
  |d::e::ds=>
   obtain⟨u,x⟩:=d;obtain⟨u',y⟩:=e
   cases u<;>try (simp[reb]at h;done)
   rename_i k1
   cases k1<;>try (simp[reb]at h;done)
   cases u'<;>try (simp[reb]at h;done)
   rename_i k2
   cases k2<;>try (simp[reb]at h;done)
   simp[reb]at h;subst h;exact⟨rfl,by simp⟩
 |ptr k=>intro ds r h;simp[reb]at h;subst h;exact⟨rfl,by simp⟩
 |unit=>intro ds r h;simp[reb]at h;subst h;exact⟨rfl,by simp⟩
 |one s ih=>
  intro ds r h;simp only[reb]at h
  split at h<;>try (cases h;done)
  rename_i r1 hr;simp only[K0]at h;subst h;exact ih ds r1 hr
 |clo f s ih=>
  intro ds r h;simp only[reb]at h
  split at h<;>try (cases h;done)
  rename_i r1 hr;simp only[K0]at h;subst h;exact ih ds r1 hr
 |box k s ih=>
  intro ds r h;simp only[reb]at h
  split at h<;>try (cases h;done)
  rename_i r1 hr;simp only[K0]at h;subst h;obtain⟨h1,h2⟩:=ih ds r1 hr;refine⟨by simp[SS.ids,h1],fun e he=> ?_⟩
  rcases Kd.1 he with rfl|he
  ·rfl
  ·exact h2 e he
 |pair s s' ih ih'=>
  intro ds r h;simp only[reb]at h
  split at h<;>try (cases h;done)
  rename_i r1 hr
  split at h<;>try (cases h;done)
  rename_i r2 hr';simp only[K0]at h;subst h;obtain⟨h1,h2⟩:=ih ds r1 hr;obtain⟨h3,h4⟩:=ih' _ r2 hr';refine⟨by simp[SS.ids,h1,h3],fun e he=> ?_⟩
  rcases Kl.1 he with he|he
  ·exact h2 e he
  ·exact h4 e he
 |tup s s' ih ih'=>
  intro ds r h;simp only[reb]at h
  split at h<;>try (cases h;done)
  rename_i r1 hr
  split at h<;>try (cases h;done)
  rename_i r2 hr';simp only[K0]at h;subst h;obtain⟨h1,h2⟩:=ih ds r1 hr;obtain⟨h3,h4⟩:=ih' _ r2 hr';refine⟨by simp[SS.ids,h1,h3],fun e he=> ?_⟩
  rcases Kl.1 he with he|he
  ·exact h2 e he
  ·exact h4 e he
theorem Jf9{f:Nat→Nat}{k:Nat}{r:Rg}(hk:r.isRB=true)(h:∀c,g c≠none→g' (f c)≠none∧hv' (f c)=hv c∧∀n,glen g' (f c)=some n→glen g c=some n)
  (hh:hv' (f k)=hv k)(hF:F' (f k)=F k)(hr:GRep w S hv g F k r):GRep w S hv' g' F' (f k) (r.ren f):=by
 cases r<;>simp[Rg.isRB]at hk
 ·simp only[GRep,Rg.ren]at hr⊢;rw[hh,hF];exact hr
 ·simp only[GRep,Rg.ren]at hr⊢;rw[hh,hF];obtain⟨b,arr,T,h1,h2,h3,h4⟩:=hr;exact⟨b,arr,T,h1,h2,h3,Jbk h _ _ _ h4⟩
 ·simp only[GRep,Rg.ren]at hr⊢;rw[hh,hF];exact hr
theorem Rg.ren_owns{f:Nat→Nat}{r:Rg}:(r.ren f).owns =r.owns:=by cases r<;>rfl
theorem Rg.ren_len{f:Nat→Nat}{r:Rg}:(r.ren f).len =r.len:=by cases r<;>rfl
structure Ends (w:World) (S:Nat→Prop) (hv:Nat→Value) (F:Nat→Nat→Prop) (g:Look) (w':World) (S':Nat→Prop) (hv':Nat→Value) (F':Nat→Nat→Prop) (g':Look):Prop where
 inv:Inv w' S' hv' F' g'
 sub:∀b,S b→S' b
 hv:∀c,g c≠none→g' c≠none→hv' c=hv c
 bS:∀b,S' b→S b∨(∃c,F c b)∨w.heap.size≤b
 bF:∀c b,F' c b→(∃c',F c' b)∨w.heap.size≤b
 fr:∀b,b<w.heap.size→(∀c,¬F c b)→w'.heap[b]? =w.heap[b]?
 sz:w.heap.size≤w'.heap.size
 st:J3a w w'
theorem Step'.then{w1 w2:World}{S1 S2:Nat→Prop}{hv1 hv2:Nat→Value}{F1 F2:Nat→Nat→Prop}{g1 g2:Look}(h:Step' w S hv F g w1 S1 hv1 F1 g1)(h':Ends w1 S1 hv1 F1 g1 w2 S2 hv2 F2 g2):Ends w S hv F g w2 S2 hv2 F2 g2 where
 inv:=h'.inv
 sub:=fun b hb=>h'.sub b (h.ext.sub b hb)
 hv:=fun c h1 h2=>by rw[h'.hv c (h.ext.used c h1) h2,h.ext.hv c h1]
 bS:=fun b hb=>by
  rcases h'.bS b hb with hb|⟨c,hb⟩|hb
  ·exact h.bS b hb
  ·rcases h.bF c b hb with hb|hb
   ·exact .inr (.inl hb)
   ·exact .inr (.inr hb)
  ·exact .inr (.inr (K14 h.sz hb))
 bF:=fun c b hb=>by
  rcases h'.bF c b hb with⟨c',hb⟩|hb
  ·exact h.bF c' b hb
  ·exact .inr (K14 h.sz hb)
 fr:=fun b hb hn=>by
  rw[h'.fr b (K16 hb h.sz) (fun c hc=> ?_),h.fr b hb hn]
  rcases h.bF c b hc with⟨c',hc'⟩|hge
  ·exact hn c' hc'
  ·omega
 sz:=K14 h.sz h'.sz
 st:=h.st.trans h'.st
theorem J21{l:List Nat}{n:Nat}:hasN l n=true↔n∈l:=by
 induction l with
 |nil=>simp[hasN]
 |cons a l ih=>
  simp only[hasN,Kd];cases h:a==n
  ·simp only[cond_false,ih]
   have:a≠n:=by simpa using h
   constructor
   ·exact .inr
   ·rintro(h|h)
    ·exact absurd h.symm this
    ·exact h
  ·have:a=n:=by simpa using h
   simp[this]
theorem J3f{ids outs:List Nat}{acc:Acc}(h:J2z ids outs acc=true):outs.Nodup∧∀k∈outs,k∈ids→(k,k,true)∈acc.mp:=by
 unfold J2z at h;simp only[K7,K11,Bool.or_eq_true,K1r,Ku,beq_iff_eq]at h;refine⟨Ji h.1.1,fun k hk hi=> ?_⟩
 rcases h.2 k hk with h1|⟨⟨a,b,f⟩,he,h1⟩
 ·rw[←Bool.not_eq_true,J21]at h1;exact absurd hi h1
 ·simp at h1;subst h1
  rcases h.1.2 _ he with h2|h2
  ·simp only at h2;rw[←Bool.not_eq_true,J21]at h2;exact absurd hi h2
  ·simp at h2;obtain⟨rfl,rfl⟩:=h2;exact he
theorem Je3{w1:World}{S1:Nat→Prop}{hv1:Nat→Value}{F1:Nat→Nat→Prop}{g1 gl1:Look}(h:Step' w S hv F g w1 S1 hv1 F1 g1){ids outs:List Nat}{acc:Acc}{rs:List (Nat×Rg)}{al:Nat→Value}{fl:Nat→Nat→Prop}{R:(Nat→Prop)→(Nat→Value)→Look→Prop}
  (hd:Down w1 S1 hv1 F1 g1 gl1 outs ⟨[],[]⟩ acc rs al fl R)(hok:acc.ok=true)(hpl:J2z ids outs acc=true)(hids:∀c,g c≠none→c∈ids):
  ∃S2,Ends w S hv F g w1 S2 al fl (J5 (fun _=>none) rs)∧R S2 al (J5 (fun _=>none) rs):=by
 obtain⟨hnd,hpl⟩:=J3f hpl;obtain⟨S2,k1,k2,k3,k4,k5,k6⟩:=Jbu h.inv hd hnd hok;refine⟨S2,⟨k1,fun b hb=>k3 b (h.ext.sub b hb),fun c h1 h2=> ?_,fun b hb=> ?_,fun c b hb=> ?_,h.fr,h.sz,h.st⟩,k2⟩
 ·obtain⟨r,hr⟩:=K13.1 h2
  have hc:c∈outs:=by
   rcases J1f hr with hm|⟨_,hm⟩
   ·rw[←hd.rsids];exact Kx.2 ⟨_,hm,rfl⟩
   ·cases hm
  have:=(k6 _ (hpl c hc (hids c h1))).2 rfl;simp only at this;rw[this,h.ext.hv c h1]
 ·rcases k4 b hb with hb|⟨k,_,hb⟩|⟨e,_,hb⟩
  ·exact h.bS b hb
  ·rcases h.bF _ b hb with hb|hb
   ·exact .inr (.inl hb)
   ·exact .inr (.inr hb)
  ·rcases h.bF _ b hb with hb|hb
   ·exact .inr (.inl hb)
   ·exact .inr (.inr hb)
 ·obtain⟨r,f,_,hb⟩:=k5 c b hb;exact h.bF _ b hb
end
end Go.Rf
namespace Go.Rf
theorem J7w{l:List (Nat×Rg)}{g:Look}{k:Nat}(h:k∈l.map (·.1)):∃r,(k,r)∈l∧J5 g l k=some r:=by
 induction l with
 |nil=>cases h
 |cons a l ih=>
  obtain⟨k',r'⟩:=a;rw[J7];split
  ·rename_i hk;subst hk;exact⟨r',by simp,rfl⟩
  ·rename_i hk
   have:k∈l.map (·.1):=by simpa[hk]using h
   obtain⟨r,h1,h2⟩:=ih this;exact⟨r,K9 _ h1,h2⟩
theorem J15{l:List (Nat×Rg)}{g:Look}{k:Nat}(h:k∉l.map (·.1)):J5 g l k=g k:=by
 induction l with
 |nil=>rfl
 |cons a l ih=>
  obtain⟨k',r'⟩:=a;simp only[K12,Kd,not_or]at h;rw[J7,if_neg h.1];exact ih h.2
theorem Jfv{ren:Nat→Nat}(os:List (Nat×Rg)):(os.map fun e=>(ren e.1,e.2.ren ren)).map (·.1)=os.map fun e=>ren e.1:=by simp[List.map_map,Function.comp_def]
section
variable {w w':World} {S S' S0:Nat→Prop} {hv hv':Nat→Value} {F F':Nat→Nat→Prop} {g g' gl:Look}
theorem Jbn{c:Nat}{r:Rg}{n:Nat}(h:GRep w S hv g F c r)(ho:r.owns=true)(hn:r.len=some n):∃m,Hdr m n (hv c):=by
 cases r with
 |row t dp m xs=>
  simp only[Rg.len,K0]at hn;subst hn;simp only[GRep]at h
  rcases J46 h with⟨h1,h2,h3⟩|⟨h1,h2,b,o,cap,h3,h4⟩
  ·subst h2;rw[h3];exact⟨true,.inl ⟨rfl,rfl,rfl⟩⟩
  ·rw[h3];exact⟨false,.inr ⟨rfl,h2,b,o,cap,rfl,h4⟩⟩
 |rowl t m xs i q d=>
  simp only[Rg.len,K0]at hn;subst hn;simp only[GRep]at h
  rcases J46 h.2.2 with⟨h1,h2,h3⟩|⟨h1,h2,b,o,cap,h3,h4⟩
  ·have:xs.length=0:=by simpa using congrArg List.length h2
   rw[h3,this];exact⟨true,.inl ⟨rfl,rfl,rfl⟩⟩
  ·simp at h2 h3 h4;rw[h3];exact⟨false,.inr ⟨rfl,h2,b,o,cap,rfl,h4⟩⟩
 |fz t x=>
  simp[Rg.owns]at ho
 |box a=>simp[Rg.len]at hn
 |fzb t x=>simp[Rg.len]at hn
 |gone=>simp[Rg.len]at hn
 |map k v es=>simp[Rg.len]at hn
theorem Jcx{r:Rg}{c:Nat}{n:Nat}{m:Bool}(hr:GRep w S hv g F c r)(ho:r.owns=true)(hh:Hdr m n (hv c)):r.len=some n:=by
 have hk:∃k,r.len=some k:=by
  cases r<;>simp[Rg.owns]at ho
  ·exact⟨_,rfl⟩
  ·exact⟨_,rfl⟩
  ·simp only[GRep]at hr;obtain⟨b,arr,T,h1,_⟩:=hr
   rcases hh with⟨_,_,h⟩|⟨_,_,b',o,cap,h,_⟩<;>rw[h1]at h<;>cases h
  ·simp only[GRep]at hr;obtain⟨_,b,arr,clk,h1,_⟩:=hr
   rcases hh with⟨_,_,h⟩|⟨_,_,b',o,cap,h,_⟩<;>rw[h1]at h<;>cases h
 obtain⟨k,hk⟩:=hk;obtain⟨m2,h2⟩:=Jbn hr ho hk
 have:k=n:=by
  rcases hh with⟨_,e1,h⟩|⟨_,_,b',o,cap,h,_⟩
  ·rcases h2 with⟨_,e2,_⟩|⟨_,_,b',o,cap,h',_⟩
   ·omega
   ·rw[h]at h';cases h'
  ·rcases h2 with⟨_,_,h'⟩|⟨_,_,b',o,cap,h',_⟩
   ·rw[h]at h';cases h'
   ·rw[h]at h';cases h';rfl
 rw[hk,this]
def Jfk(sh:Bool)(l:List (Nat×Rg)):List (Nat×Rg):=match sh with
 |true=>l
 |false=>[]
def selS(sh:Bool)(A B:Nat→Prop):Nat→Prop:=match sh with
 |true=>A
 |false=>B
theorem Jf3(hI:Inv w S hv F g)(hl:∀c r,gl c=some r→g c=some r){ids:List Nat}{acc:Acc}{rs:List (Nat×Rg)}{al:Nat→Value}{fl:Nat→Nat→Prop}{R:(Nat→Prop)→(Nat→Value)→Look→Prop}
  (hd:Down w S hv F g gl ids ⟨[],[]⟩ acc rs al fl R)(hok:acc.ok=true)
  (hc1:∀b,S b→S0 b)(hc2:∀b,S0 b→S b∨FL F acc.vw b∨∃e∈acc.mp,F e.2.1 b)(hc3:∀k b,fl k b→∃r f,(k,r,f)∈acc.mp∧F r b)(hc4:∀e∈acc.mp,e.1∈ids∧(e.2.2=true→al e.1=hv e.2.1))
  {F':Nat→Nat→Prop}{os:List (Nat×Rg)}(he:Ends w S0 al fl (J5 (fun _=>none) rs) w' S' hv' F' (J5 (fun _=>none) os))(hos:(os.map (·.1)).Nodup)(hrb:∀e∈os,e.2.isRB=true)(ren:Nat→Nat)(sh:Bool)(hsh:sh=false→∀e∈os,J3d e.2=true)
  (hren:∀e∈os,(∃m∈acc.mp,m.1=e.1∧ren e.1=m.2.1∧m.2.2=true)∨g (ren e.1)=none)(hnd:(os.map fun e=>ren e.1).Nodup):
  ∃S'' hv'' F'' g'',g''=J5 g ((os.map fun e=>(ren e.1,e.2.ren ren))++((acc.mp.filter fun e=> !((os.map fun e=>(ren e.1,e.2.ren ren)).any fun n=>n.1==e.2.1)).map fun e=>(e.2.1,Rg.gone))++(Jfk sh (frozen gl acc.vw)))∧Step' w S hv F g w' S'' hv'' F'' g''∧
   ∀(a:SV) (m:Bool) (cs:List Value),(sh=false→Jh a=true)→CRep w' S' hv' (J5 (fun _=>none) os) m a cs→CRep w' S'' hv'' g'' m (a.ren ren) cs:=by
 classical
 obtain⟨ok1,ok2⟩:=Acc.ok_spec hok
 let pre:Nat→Option Nat:=fun c=>(os.find? fun e=>ren e.1==c).map (·.1)
 have pre_some:∀c k,pre c=some k→∃r,(k,r)∈os∧ren k=c:=by
  intro c k h;simp only[pre,Kp]at h;obtain⟨⟨k',r⟩,h1,rfl⟩:=h;have h2:=List.find?_some h1;simp at h2;exact⟨r,K23 h1,h2⟩
 have pre_of:∀e∈os,pre (ren e.1)=some e.1:=by
  intro e hm
  cases hp:os.find? (fun e'=>ren e'.1==ren e.1)with
  |none=>
   have:=List.find?_eq_none.1 hp e hm;simp at this
  |some e'=>
   have h1:=K23 hp;have h2:=List.find?_some hp;simp at h2;have:e'=e:=J9n hnd h1 hm h2;subst this;simp[pre,hp]
 have pre_none:∀c,pre c=none→c∉os.map fun e=>ren e.1:=by
  intro c h hm;obtain⟨e,he',rfl⟩:=Kx.1 hm;rw[pre_of e he']at h;cases h
 let mapped:Nat→Prop:=fun c=>∃e∈acc.mp,e.2.1=c
 have mapped_g:∀c,mapped c→∃r,gl c=some r∧r.owns=true:=by
  rintro c ⟨e,he',rfl⟩
  rcases hd.mpnew e he' with h|⟨_,_,h⟩
  ·cases h
  ·exact h
 have vw_g:∀c∈acc.vw,gl c≠none:=by
  intro c hc
  rcases hd.vwnew c hc with h|h
  ·cases h
  ·exact h
 have vw_not:∀c∈acc.vw,¬mapped c:=by
  rintro c hc ⟨e,he',h⟩
  exact ok2 c hc e he' h
 have news:∀c k,pre c=some k→(∃m∈acc.mp,m.1=k∧m.2.1=c∧m.2.2=true)∨g c=none:=by
  intro c k h;obtain⟨r,h1,h2⟩:=pre_some c k h
  rcases hren _ h1 with⟨m,m1,m2,m3,m4⟩|h3
  ·exact .inl ⟨m,m1,m2,by rw[←h2];exact m3.symm,m4⟩
  ·exact .inr (by rw[←h2];exact h3)
 have pre_vw:∀c,c∈acc.vw→pre c=none:=by
  intro c hc
  cases hp:pre c with
  |none=>rfl
  |some k=>
   rcases news c k hp with⟨m,m1,_,m3,_⟩|h
   ·exact absurd ⟨m,m1,m3⟩ (vw_not c hc)
   ·have:=vw_g c hc;obtain⟨r,hr⟩:=K13.1 this;rw[hl _ _ hr]at h;cases h
 let G:Look:=J5 g ((os.map fun e=>(ren e.1,e.2.ren ren))++((acc.mp.filter fun e=> !((os.map fun e=>(ren e.1,e.2.ren ren)).any fun n=>n.1==e.2.1)).map fun e=>(e.2.1,Rg.gone))++(Jfk sh (frozen gl acc.vw)))
 have G_new:∀c k,pre c=some k→∃r,(k,r)∈os∧G c=some (r.ren ren):=by
  intro c k h;obtain⟨r,h1,h2⟩:=pre_some c k h;refine⟨r,h1,?_⟩;simp only[G,Kj];rw[J1a];exact J2s (by rw[Jfv];exact hnd) (Kx.2 ⟨(k,r),h1,by simp[h2]⟩)
 have G_old:∀c,pre c=none→G c=if mapped c then some .gone else if sh=true∧c∈acc.vw then some (J6b gl c)else g c:=by
  intro c h;have h0:=pre_none c h;simp only[G,Kj];rw[J1a,J15 (by rw[Jfv];exact h0),J1a]
  have hg:(((acc.mp.filter fun e=> !((os.map fun e=>(ren e.1,e.2.ren ren)).any fun n=>n.1==e.2.1)).map fun e=>(e.2.1,Rg.gone)))=(((acc.mp.filter fun e=> !((os.map fun e=>(ren e.1,e.2.ren ren)).any fun n=>n.1==e.2.1)).map fun e=>e.2.1).map fun c=>(c,Rg.gone)):=by simp[List.map_map,Function.comp_def]
  rw[hg,Jq]
  have hmem:(c∈(acc.mp.filter fun e=> !((os.map fun e=>(ren e.1,e.2.ren ren)).any fun n=>n.1==e.2.1)).map fun e=>e.2.1)↔mapped c:=by
   simp only[Kx,K1e,K1r,List.any_eq_false,beq_iff_eq,mapped];constructor
   ·rintro⟨e,⟨h1,_⟩,h2⟩;exact⟨e,h1,h2⟩
   ·rintro⟨e,h1,h2⟩
    refine⟨e,⟨h1,?_⟩,h2⟩
    rintro⟨a,r⟩ hx heq
    simp only at heq;subst heq;obtain⟨e0,h3,h4⟩:=hx;simp only[K6]at h4;exact h0 (Kx.2 ⟨e0,h3,by rw[h4.1,h2]⟩)
  simp only[hmem];split
  ·rfl
  ·cases sh
   ·simp[J10,Jfk]
   ·simp only[true_and,Jfk];rw[J23]
 let HV:Nat→Value:=fun c=>match pre c with
  |some k=>hv' k
  |none=>hv c
 let FF:Nat→Nat→Prop:=fun c b=>match pre c with
  |some k=>F' k b
  |none=>if mapped c then False else if sh=true∧c∈acc.vw then False else F c b
 let SS':Nat→Prop:=selS sh (fun b=>S' b∨FL F acc.vw b) S
 have HV_new:∀c k,pre c=some k→HV c=hv' k:=fun c k h=>by simp only[HV,h]
 have HV_old:∀c,pre c=none→HV c=hv c:=fun c h=>by simp only[HV,h]
 have FF_new:∀c k,pre c=some k→FF c=F' k:=fun c k h=>by funext b;simp only[FF,h]
 have FF_old:∀c b,pre c=none→FF c b→¬mapped c∧¬(sh=true∧c∈acc.vw)∧F c b:=by
  intro c b h hb;simp only[FF,h]at hb;split at hb
  ·exact hb.elim
  ·split at hb
   ·exact hb.elim
   ·rename_i h1 h2;exact⟨h1,h2,hb⟩
 have rs_g:∀k,k∈ids→J5 (fun _=>none) rs k≠none:=by
  intro k hk;rw[←hd.rsids]at hk;obtain⟨r,_,hr⟩:=J7w (g:=fun _=>none) hk;rw[hr];simp
 have os_g:∀e∈os,J5 (fun _=>none) os e.1=some e.2:=fun e hm=>J2s hos hm
 have hv_keep:∀c k,pre c=some k→g c≠none→hv' k=hv c:=by
  intro c k h hc;obtain⟨r,h1,h2⟩:=pre_some c k h
  rcases news c k h with⟨m,m1,rfl,rfl,m4⟩|h3
  ·obtain⟨q1,q2⟩:=hc4 m m1;rw[he.hv m.1 (rs_g _ q1) (by rw[os_g _ h1];simp),q2 m4]
  ·exact absurd h3 hc
 have flF:∀k b,fl k b→∃c,mapped c∧F c b:=by
  intro k b hb;obtain⟨r,f,h1,h2⟩:=hc3 k b hb;exact⟨r,⟨_,h1,rfl⟩,h2⟩
 have hlen:∀c k r,pre c=some k→(k,r)∈os→g c≠none→∀n,r.len=some n→glen g c=some n:=by
  intro c k r h hm hc n hn;have hgr:=he.inv.rep k r (os_g _ hm);obtain⟨m0,h1⟩:=Jbn hgr (by have:=hrb _ hm;cases r<;>simp[Rg.isRB]at this<;>rfl) hn;rw[hv_keep c k h hc]at h1
  rcases news c k h with⟨m,m1,_,m3,_⟩|h3
  ·obtain⟨r0,h4,h5⟩:=mapped_g c ⟨m,m1,m3⟩;have h6:=hl _ _ h4;simp only[glen,h6];exact Jcx (hI.rep c r0 h6) h5 h1
  ·exact absurd h3 hc
 let IDS:Nat→Prop:=fun c=>pre c≠none∨mapped c∨(sh=true∧c∈acc.vw)
 have hF0:∀c,¬IDS c→pre c=none∧¬mapped c∧¬(sh=true∧c∈acc.vw):=by
  intro c hc;simp only[IDS,not_or,Classical.not_not]at hc;exact hc
 have hnewF:∀k b,F' k b→(∃c,mapped c∧F c b)∨w.heap.size≤b:=by
  intro k b hb
  rcases he.bF k b hb with⟨k',h1⟩|h1
  ·exact .inl (flF k' b h1)
  ·exact .inr h1
 have hst0:=he.st
 have hstep:Step' w S hv F g w' SS' HV FF G:=by
  refine J9l hI IDS ?_ ?_ he.sz ?_ ?_ ?_ ?_ ?_ ?_ ?_ ?_ ?_ ?_ ?_ ?_ ?_
  ·intro c hc;obtain⟨h1,h2,h3⟩:=hF0 c hc;rw[G_old c h1,if_neg h2,if_neg h3]
  ·intro c hc;obtain⟨h1,h2,h3⟩:=hF0 c hc;funext b;simp only[FF,h1,h2,h3,if_false]
  ·intro b hb hn
   refine he.fr b hb fun k hk=> ?_
   obtain⟨c,h1,h2⟩:=flF k b hk;exact hn c (.inr (.inl h1)) h2
  ·intro b hb;simp only[SS'];cases hshv:sh
   ·exact hb
   ·exact .inl (he.sub b (hc1 b hb))
  ·intro c hc
   cases hp:pre c with
   |none=>exact HV_old c hp
   |some k=>rw[HV_new c k hp];exact hv_keep c k hp hc
  ·intro c hc hg
   cases hp:pre c with
   |some k=>
    obtain⟨r,_,h⟩:=G_new c k hp;rw[h];simp
   |none=>
    rw[G_old c hp];split
    ·simp
    ·split
     ·simp
     ·exact hg
  ·intro c n hc hg hn
   cases hp:pre c with
   |some k=>
    obtain⟨r,h1,h⟩:=G_new c k hp;simp only[glen,h,Rg.ren_len]at hn;exact hlen c k r hp h1 hg n hn
   |none=>
    simp only[glen,G_old c hp]at hn;split at hn
    ·rename_i h;split at h
     ·simp at h;subst h;simp[Rg.len]at hn
     ·split at h
      ·rename_i hm hv2;obtain⟨r0,h0⟩:=K13.1 (vw_g c hv2.2);simp only[J6b,h0,K0]at h;subst h;simp only[glen,hl _ _ h0];exact J58 r0 n hn
      ·simp only[glen,h];exact hn
    ·cases hn
  ·intro hx c r hc hr
   have hsameF:∀c' b,¬mapped c'→F c' b→w'.heap[b]? =w.heap[b]? :=by
    intro c' b h1 hb
    refine he.fr b (hI.old c' b hb) fun k hk=> ?_
    obtain⟨c2,h2,h3⟩:=flF k b hk;exact h1 (hI.disj c2 c' b h3 hb▸h2)
   cases hp:pre c with
   |some k=>
    obtain⟨r0,h1,h⟩:=G_new c k hp;rw[h]at hr;simp only[K0]at hr;subst hr;obtain⟨_,_,h2⟩:=pre_some c k hp;have hgr:=he.inv.rep k r0 (os_g _ h1)
    have hgr':GRep w' SS' hv' (J5 (fun _=>none) os) F' k r0:=by
     cases hshv:sh with
     |false=>exact Jcl (hsh hshv _ h1) hgr
     |true=>
      have hext:Ext w' S' hv' (J5 (fun _=>none) os) w' SS' hv' (J5 (fun _=>none) os):=⟨fun _ _ _ _ h=>h,fun b hb=>by simp only[SS',hshv,selS];exact .inl hb,fun _ _=>rfl,fun _ h=>h,fun _ _ _ h=>h⟩;exact J91 hext (by rw[os_g _ h1];simp) (fun _ h=>h) (fun _ _=>rfl) hgr
    rw[←h2];refine Jf9 (hrb _ h1) ?_ ?_ ?_ hgr'
    ·intro c' hc';obtain⟨r',hr'⟩:=K13.1 hc'
     have hm':(c',r')∈os:=by
      rcases J1f hr' with h|⟨_,h⟩
      ·exact h
      ·cases h
     have hp':=pre_of _ hm';obtain⟨r2,k2,k3⟩:=G_new _ _ hp'
     have:r2=r':=by
      have:=os_g _ k2;simp only at this;rw[hr']at this;simpa using this.symm
     subst this;refine⟨by rw[k3];simp,HV_new _ _ hp',fun n hn=> ?_⟩;simp only[glen,k3,Rg.ren_len]at hn;simp only[glen,hr',hn]
    ·rw[h2];exact HV_new c k hp
    ·rw[h2];exact FF_new c k hp
   |none=>
    rw[G_old c hp]at hr;split at hr
    ·simp only[K0]at hr;subst hr;simp only[GRep]
    ·rename_i hm;split at hr
     ·rename_i hv2;obtain⟨r0,h0⟩:=K13.1 (vw_g c hv2.2);simp only[J6b,h0,K0]at hr;subst hr
      refine Jax hI hl h0 hx (HV_old c hp) (fun b hb=>hsameF c b hm hb) fun b hb=> ?_
      simp only[SS',hv2.1,selS];exact .inr ⟨c,hv2.2,hb⟩
     ·rename_i hv2
      rcases hc with hc|hc|hc
      ·exact absurd hp hc
      ·exact absurd hc hm
      ·exact absurd hc hv2
  ·intro c b hc hb
   cases hp:pre c with
   |some k=>
    rw[FF_new c k hp]at hb;obtain⟨r,h1,h2⟩:=he.inv.live k b hb;obtain⟨r2,k2,k3⟩:=G_new _ _ hp
    have:r2=r:=by
     have:=os_g _ k2;simp only at this;rw[h1]at this;simpa using this.symm
    subst this;exact⟨_,k3,by rw[Rg.ren_owns];exact h2⟩
   |none=>
    obtain⟨h1,h2,h3⟩:=FF_old c b hp hb
    rcases hc with hc|hc|hc
    ·exact absurd hp hc
    ·exact absurd hc h1
    ·exact absurd hc h2
  ·intro c b hc hb
   cases hp:pre c with
   |some k=>
    rw[FF_new c k hp]at hb
    rcases hnewF k b hb with⟨c',h1,h2⟩|h1
    ·exact .inl ⟨c',.inr (.inl h1),h2⟩
    ·exact .inr h1
   |none=>
    obtain⟨h1,h2,h3⟩:=FF_old c b hp hb
    rcases hc with hc|hc|hc
    ·exact absurd hp hc
    ·exact absurd hc h1
    ·exact absurd hc h2
  ·intro c b hc hb
   cases hp:pre c with
   |some k=>rw[FF_new c k hp]at hb;exact he.inv.old k b hb
   |none=>exact K16 (hI.old c b (FF_old c b hp hb).2.2) he.sz
  ·intro c c' b hc hc' hb hb'
   cases hp:pre c with
   |some k=>
    rw[FF_new c k hp]at hb
    cases hp':pre c' with
    |some k'=>
     rw[FF_new c' k' hp']at hb';have:=he.inv.disj k k' b hb hb';subst this;obtain⟨_,_,h1⟩:=pre_some c k hp;obtain⟨_,_,h2⟩:=pre_some c' k hp';rw[←h1,←h2]
    |none=>
     obtain⟨h1,h2,h3⟩:=FF_old c' b hp' hb'
     rcases hc' with hc'|hc'|hc'
     ·exact absurd hp' hc'
     ·exact absurd hc' h1
     ·exact absurd hc' h2
   |none=>
    obtain⟨h1,h2,h3⟩:=FF_old c b hp hb
    rcases hc with hc|hc|hc
    ·exact absurd hp hc
    ·exact absurd hc h1
    ·exact absurd hc h2
  ·intro b hb;simp only[SS']at hb
   cases hshv:sh with
   |false=>rw[hshv]at hb;exact .inl hb
   |true=>
    rw[hshv]at hb
    rcases hb with hb|⟨c,hc,hb⟩
    ·rcases he.bS b hb with hb|⟨k,hb⟩|hb
     ·rcases hc2 b hb with hb|⟨c,hc,hb⟩|⟨e,hem,hb⟩
      ·exact .inl hb
      ·exact .inr (.inl ⟨c,.inr (.inr ⟨hshv,hc⟩),hb⟩)
      ·exact .inr (.inl ⟨e.2.1,.inr (.inl ⟨e,hem,rfl⟩),hb⟩)
     ·obtain⟨c,h1,h2⟩:=flF k b hb;exact .inr (.inl ⟨c,.inr (.inl h1),h2⟩)
     ·exact .inr (.inr hb)
    ·exact .inr (.inl ⟨c,.inr (.inr ⟨hshv,hc⟩),hb⟩)
  ·intro b hb;simp only[SS']at hb
   cases hshv:sh with
   |false=>rw[hshv]at hb;exact K16 (hI.sold b hb) he.sz
   |true=>
    rw[hshv]at hb
    rcases hb with hb|⟨c,hc,hb⟩
    ·exact he.inv.sold b hb
    ·exact K16 (hI.old c b hb) he.sz
  ·intro c b hc hb hs
   cases hp:pre c with
   |some k=>
    rw[FF_new c k hp]at hb;simp only[SS']at hs
    cases hshv:sh with
    |false=>
     rw[hshv]at hs;exact he.inv.shr k b hb (he.sub b (hc1 b hs))
    |true=>
     rw[hshv]at hs
     rcases hs with hs|⟨c2,hc2',hb2⟩
     ·exact he.inv.shr k b hb hs
     ·rcases hnewF k b hb with⟨c',h1,h2⟩|h1
      ·exact vw_not c2 hc2' (hI.disj c' c2 b h2 hb2▸h1)
      ·exact absurd (hI.old c2 b hb2) (by omega)
   |none=>
    obtain⟨h1,h2,h3⟩:=FF_old c b hp hb
    rcases hc with hc|hc|hc
    ·exact absurd hp hc
    ·exact absurd hc h1
    ·exact absurd hc h2
 refine⟨SS',HV,FF,G,rfl,hstep,fun a m cs ha hcs=> ?_⟩
 have hcs':CRep w' SS' hv' (J5 (fun _=>none) os) m a cs:=by
  cases hshv:sh with
  |false=>exact J7c _ _ _ (ha hshv) hcs
  |true=>
   have hext:Ext w' S' hv' (J5 (fun _=>none) os) w' SS' hv' (J5 (fun _=>none) os):=⟨fun _ _ _ _ h=>h,fun b hb=>by simp only[SS',hshv,selS];exact .inl hb,fun _ _=>rfl,fun _ h=>h,fun _ _ _ h=>h⟩;exact J27 hext _ _ _ hcs
 refine Jbk ?_ _ _ _ hcs';intro c' hc';obtain⟨r',hr'⟩:=K13.1 hc'
 have hm':(c',r')∈os:=by
  rcases J1f hr' with h|⟨_,h⟩
  ·exact h
  ·cases h
 have hp':=pre_of _ hm';obtain⟨r2,k2,k3⟩:=G_new _ _ hp'
 have:r2=r':=by
  have:=os_g _ k2;simp only at this;rw[hr']at this;simpa using this.symm
 subst this;refine⟨by rw[k3];simp,HV_new _ _ hp',fun n hn=> ?_⟩;simp only[glen,k3,Rg.ren_len]at hn;simp only[glen,hr',hn]
end
end Go.Rf
namespace Go.Rf
def Jb7(n:Nat)(a:SV):SV:=match Jn n a with
 | .tup a .unit =>a
 |a=>a
def J2l(P:Program)(H:Hints)(key:Nat)(x:Den (tyOf (aTys H key)))(y:Den (tyOf (rTys H key))):Prop:=
 ∀h,H.key key=some h→∃r,reb h.pars (J11 (aTys H key) x)=some r∧h.pars.ids.Nodup∧h.outs.ids.Nodup∧h.pars.isChain=true∧
  ∀(w:World) (S:Nat→Prop) (hv:Nat→Value) (F:Nat→Nat→Prop) (vs:List Value),Inv w S hv F (J5 (fun _=>none) r.rs)→CRep w S hv (J5 (fun _=>none) r.rs) true r.sv vs→
   Calls P h.fid vs.toArray w fun e w'=>∃v s,e= .returned v∧reb h.outs (J11 (rTys H key) y)=some s∧∃S' hv' F',Ends w S hv F (J5 (fun _=>none) r.rs) w' S' hv' F' (J5 (fun _=>none) s.rs)∧VR w' S' hv' (J5 (fun _=>none) s.rs) (Jb7 h.bk.length s.sv) v
section
variable {P:Program} {H:Hints} {w w':World} {S S':Nat→Prop} {hv hv':Nat→Value} {F F':Nat→Nat→Prop} {g g' gl:Look}
theorem Jgs{f:Nat→Nat}{w1:World}{S1:Nat→Prop}{hv1:Nat→Value}{g1:Look}{a:SV}{v:Value}(h:∀m cs,CRep w S hv g m a cs→CRep w1 S1 hv1 g1 m (a.ren f) cs)(hr:VR w S hv g a v):VR w1 S1 hv1 g1 (a.ren f) v:=by
 have hV0:V0 (CRep w S hv g false a) a v→V0 (CRep w1 S1 hv1 g1 false (a.ren f)) (a.ren f) v:=by
  intro hp;obtain⟨s1,s2,_⟩:=Jcf (f:=f) a
  rcases hp with hp|⟨h1,cs,h2,h3⟩|⟨h1,h2⟩
  ·exact .inl (by rw[s2];exact hp)
  ·exact .inr (.inl ⟨by rw[s1];exact h1,cs,h2,h _ _ h3⟩)
  ·exact .inr (.inr ⟨by rw[s1];exact h1,h _ _ h2⟩)
 cases a with
 |dead=>trivial
 |unit=>exact hr
 |tup x y=>
  obtain⟨vs,rfl,hc⟩:=hr;exact⟨vs,rfl,h _ _ hc⟩
 |_=>exact hV0 hr
theorem J49:∀(n:Nat) (a:SV),Jh a=true→Jh (Jn n a)=true
 |0,a,h=>by simpa[Jn]using h
 |n+1,a,h=>by
  cases a with
  |tup x y=>
   simp only[Jh,K7]at h;simp only[Jn];exact J49 n y h.2
  |_=>simpa[Jn]using h
theorem Jah{n:Nat}{a:SV}(h:Jh a=true):Jh (Jb7 n a)=true:=by
 have h1:=J49 n a h;unfold Jb7;split
 ·rename_i x hx;rw[hx]at h1;simp only[Jh,K7]at h1;exact h1.1
 ·exact h1
theorem J9t(hf:Fit P H){key:Nat}{h:FnH}(hk:H.key key=some h)(args:Array Value):(callFunc h.fid args).run P w= .ok (.enter h.fid args) w:=by
 obtain⟨h1,h2,h3⟩:=hf.fn key h hk
 have hb:h.f.body≠none:=by intro hbd;rw[hbd]at h2;cases h2
 have h4:h.f.name≠ "runtime.NumGoroutine" :=by simpa using h3
 simp[callFunc,h1,h4,hb]
theorem J7h(hf:Fit P H)(hI:Inv w S hv F g)(hl:∀c r,gl c=some r→g c=some r){p:Fns H}(hp:∀key x y,p.call key x=some y→J2l P H key x y){d key f:Nat}{args:SV}{vs:List Value}
  (ha:CRep w S hv g true args vs){e:Eff}(he:(Jcp H p gl d key f args).run =some e)(hup:∀c r,(c,r)∈e.upd→gl c=none→g c=none):
  Res P ((callFunc f vs.toArray).run P w) (Out w S hv F g e):=by
 have hfail:∀{e:Eff},(M.fail:M Eff).run =some e→False:=fun h=>by simp[M.run]at h
 unfold Jcp at he;split at he
 ·exact(hfail he).elim
 rename_i h hk;split at he
 ·exact(hfail he).elim
 rename_i hfid;have hfid:=eq_of_beq hfid;subst hfid;rw[M.run_bind]at he
 cases hx1:(ext gl h.pars args ⟨[],[]⟩).run with
 |none=>simp[hx1]at he
 |some r1=>
  obtain⟨ds,acc⟩:=r1;simp only[hx1,K1k]at he;split at he
  ·rename_i x hok hpk;simp only[M.run]at he
   cases hy:p.call key x with
   |none=>simp[hy]at he
   |some y=>
    simp only[hy,K1k]at he;split at he
    ·rename_i s hs;split at he
     ·exact(hfail he).elim
     ·rename_i hchk;have hchk:=K28.1 hchk;have hchk:_∧∀e∈s.rs,_:=⟨hchk.1,K11.1 hchk.2⟩;simp only[M.run,K0]at he;obtain⟨r,k1,k3,k4,hch,k5⟩:=hp key x y hy h hk
      have hany:h.pars.isAny=false:=by cases hp':h.pars<;>rw[hp']at hch<;>first|rfl|simp[SS.isChain]at hch
      have t:=J5n hI hl h.pars args ⟨[],[]⟩ acc ds vs hx1 k3 hany (by rw[hch];exact ha);rw[hch]at t;obtain⟨sv,rs,al,fl,t1,_,t3⟩:=t;obtain⟨S0,c1,c2,c3,c4,c5,c6⟩:=Jbu hI t3 k3 hok;have hun:=J14 _ _ _ hpk;rw[hun]at k1;have t1':=t1 [];rw[K1l,k1]at t1';simp only[K0]at t1';subst t1';rw[J9t hf hk];simp only[Res]
      refine(k5 w S0 al fl vs c1 c2).mono fun e' w' hend=> ?_
      obtain⟨v,s',rfl,k2,S',hv',F',hE,hV⟩:=hend;rw[hs]at k2;simp only[K0]at k2;subst k2;refine⟨v,rfl,?_⟩;obtain⟨q1,q2⟩:=J6p _ _ _ hs
      have hos:(s.rs.map (·.1)).Nodup :=by rw[q1];exact k4
      let ren:Nat→Nat:=fun c=>match acc.mp.find? fun e=>e.1==c with
       |some e=>e.2.1
       |none=>d+4096*(c+1)
      have hnd:(s.rs.map fun e=>ren e.1).Nodup :=by
       have:=Ji hchk.1;rw[List.map_map]at this;exact this
      have happ:shared h.outs=false→Jh s.sv=true∧∀e∈s.rs,J3d e.2=true:=by
       intro hsh;have hty:=J3g (rTys H key) y
       have hrt:rTys H key=h.outs.tys:=by simp[rTys,hk]
       have:=J9p h.outs _ s.rest [] s.sv s.rs hsh hs (by rw[hty,hrt,K1l]);exact⟨this.1,this.2.1⟩
      have hren:∀e∈s.rs,(∃m∈acc.mp,m.1=e.1∧ren e.1=m.2.1∧m.2.2=true)∨g (ren e.1)=none:=by
       intro e' hem;have hc:=hchk.2 e' hem
       cases hfd:acc.mp.find? (fun m=>m.1==e'.1)with
       |some m=>
        rw[hfd]at hc;have h1:=K23 hfd;have h2:=List.find?_some hfd;simp at h2;exact .inl ⟨m,h1,h2,by simp only[ren,hfd],hc⟩
       |none=>
        rw[hfd]at hc;refine .inr ?_
        have h3:ren e'.1=d+4096*(e'.1+1):=by simp only[ren,hfd]
        rw[h3];refine hup _ (e'.2.ren ren) ?_ ?_
        ·rw[←he,←h3];simp only[Kj];exact Ke _ (Kx.2 ⟨e',hem,rfl⟩)
        ·simp only at hc;split at hc
         ·assumption
         ·cases hc
      obtain⟨S'',hv'',F'',g'',u1,u2,u3⟩:=Jf3 hI hl t3 hok c3 c4 c5 c6 hE hos q2 ren (shared h.outs) (fun h=>(happ h).2) hren hnd
      have hupd:J5 g e.upd=g'':=by
       rw[u1,←he];rfl
      refine Out.mk hupd u2 ?_
      have hval:e.val=(Jb7 h.bk.length s.sv).ren ren:=by
       rw[←he];rfl
      rw[hval];exact Jgs (fun m cs hc=>u3 _ m cs (fun hsh=>Jah (happ hsh).1) hc) hV
    ·exact(hfail he).elim
  ·exact(hfail he).elim
end
end Go.Rf
namespace Go.Rf
section
variable {P:Program} {H:Hints} {w w':World} {S S':Nat→Prop} {hv hv':Nat→Value} {F F':Nat→Nat→Prop} {g g' gl:Look}
theorem J3v{caps:SV}{ps:List Value}(hc:CRep w S hv g true caps ps):∀(as:List SV) (vs:List Value),CRep w S hv g true (J43 as) vs→CRep w S hv g true (J1u (J43 as) caps) (vs++ps)
 |[],vs,h=>by
  simp only[J43,CRep]at h;subst h;simpa[J43,J1u]using hc
 |a::as,vs,h=>by
  simp only[J43,CRep]at h;obtain⟨p,r,rfl,h1,h2⟩:=h;simp only[J43,J1u,CRep];exact⟨p,r++ps,rfl,h1,J3v hc as r h2⟩
theorem Jan:∀(ct:Ty) (x:Den ct) (caps:SV) (ps:List Value),Jam ct x=some caps→Rep w S true ct x ps→CRep w S hv g true caps ps:=by
 intro ct
 induction ct with
 |nil=>intro x caps ps h hr;simp[Jam]at h;subst h;simpa[Rep,CRep]using hr
 |pair a r iha ihr=>
  intro x caps ps h hr;simp only[Jam]at h;split at h
  ·rename_i s hs;simp only[K0]at h;subst h;simp only[Rep]at hr;obtain⟨b,o,c,rest,rfl,h1,h2,h3,h4⟩:=hr;simp only[CRep];refine⟨_,rest,rfl,.inr (.inr ⟨rfl,?_⟩),ihr _ _ _ hs h4⟩;simp only[CRep];exact⟨b,o,c,rfl,h1,h2,h3⟩
  ·cases h
 |_=>intro x caps ps h;simp[Jam]at h
theorem Jfm(hf:Fit P H)(hI:Inv w S hv F g)(hl:∀c r,gl c=some r→g c=some r)(o:Oper)(ρ:Operand→Value)(h:FnH){p:Fns H}(hp:∀key x y,p.call key x=some y→J2l P H key x y){d:Nat}(hd:gl d=none→g d=none){args:List SV}
  (ha:All2 (fun a v=>VR w S hv g a v) args (o.op.operands.toList.map ρ)){e:Eff}(he:(eff1 H h p o.op o.type d gl args).run =some e)(hup:∀c r,(c,r)∈e.upd→gl c=none→g c=none):
  Res P ((execOp ρ o).run P w) (Out w S hv F g e):=by
 have hfail:∀{e:Eff},(M.fail:M Eff).run =some e→False:=fun h=>by simp[M.run]at h
 by_cases hc:∃c,o.op= .call c
 ·obtain⟨c,ho⟩:=hc;obtain⟨callee,xs,ts⟩:=c;rw[ho]at ha he;simp only[eff1]at he
  cases callee with
  |builtin b=>
   simp only at he;refine J8g hf hI hl o ρ b xs ts ho hd ?_ he;simpa[Op.operands,Call.operands]using ha
  |invoke r m=>exact(hfail he).elim
  |value f=>
   simp only at he
   have ha':All2 (fun a v=>VR w S hv g a v) args (ρ f::xs.toList.map ρ):=by simpa[Op.operands,Call.operands]using ha
   cases ha' with
   |cons h1 h2=>
    rename_i a as
    have hrun:∀(k:Nat) (ps:List Value),ρ f= .func (.func k) #[] ps.toArray→(execOp ρ o).run P w=(callFunc k (xs.toList.map ρ++ps).toArray).run P w:=by
     intro k ps hr
     have hxs:xs.map ρ=(xs.toList.map ρ).toArray :=by apply Array.ext';simp
     simp[execOp,ho,resolve,invoke,Deferred.ofValue,hr,hxs]
    have hargs:=J7d h2;split at he
    ·rename_i k caps as' heq;cases heq;rw[J8 rfl]at h1;simp only[CRep]at h1;obtain⟨ps,hps,hcap⟩:=h1;simp only[K10,and_true]at hps;rw[hrun k ps hps];have hall:=J3v hcap _ _ hargs;split at he
     ·rename_i ef hef;exact Je6 hf hI hef hall he
     ·exact J7h hf hI hl hp hall he hup
    ·rename_i k ct x as' heq;cases heq;rw[VR_v rfl]at h1;simp only[Rep]at h1;obtain⟨ps,hps,hcap⟩:=h1;simp only[K10,and_true]at hps;rw[hrun k ps hps];split at he
     ·rename_i caps hcaps;exact J7h hf hI hl hp (J3v (Jan _ _ _ _ hcaps hcap) _ _ hargs) he hup
     ·exact(hfail he).elim
    ·exact(hfail he).elim
 ·exact Jcr hf hI hl o ρ h p hd ha he fun c hcc=>hc ⟨c,hcc⟩
structure Rel (n:Nat) (s:St) (a:Act) (w:World) (S:Nat→Prop) (hv:Nat→Value) (F:Nat→Nat→Prop):Prop where
 inv:Inv w S hv F s.reg
 sl:∀i,VR w S hv s.reg (s.slot i) (a.tmps.getD i undef)
 df:a.defers=[]
 sz:n≤a.tmps.size
def J1v(n:Nat)(W:List Nat)(a:Act)(w:World)(S:Nat→Prop)(hv:Nat→Value)(F:Nat→Nat→Prop)(g:Look)(s':St)(a':Act)(w':World):Prop:=
 ∃S' hv' F',Rel n s' a' w' S' hv' F'∧Step' w S hv F g w' S' hv' F' s'.reg∧∀i,i∉W→a'.tmps.getD i undef=a.tmps.getD i undef
theorem J1v.trans{n:Nat}{W W':List Nat}{a:Act}{s1 s2:St}{a1 a2:Act}{w1 w2:World}(h:J1v n W a w S hv F g s1 a1 w1)(h':∀S1 hv1 F1,Rel n s1 a1 w1 S1 hv1 F1→J1v n W' a1 w1 S1 hv1 F1 s1.reg s2 a2 w2):J1v n (W++W') a w S hv F g s2 a2 w2:=by
 obtain⟨S1,hv1,F1,h1,h2,h3⟩:=h;obtain⟨S2,hv2,F2,h4,h5,h6⟩:=h' S1 hv1 F1 h1;refine⟨S2,hv2,F2,h4,h2.trans h5,fun i hi=> ?_⟩;rw[h6 i (fun h=>hi (Kw _ h)),h3 i (fun h=>hi (Ke _ h))]
theorem J1v.mono{n:Nat}{W W':List Nat}{a:Act}{s1:St}{a1:Act}{w1:World}(h:J1v n W a w S hv F g s1 a1 w1)(hW:∀i∈W,i∈W'):J1v n W' a w S hv F g s1 a1 w1:=by
 obtain⟨S1,hv1,F1,h1,h2,h3⟩:=h;exact⟨S1,hv1,F1,h1,h2,fun i hi=>h3 i (fun h=>hi (hW i h))⟩
theorem J1v.refl{n:Nat}{W:List Nat}{a:Act}{s:St}(h:Rel n s a w S hv F):J1v n W a w S hv F s.reg s a w:=⟨S,hv,F,h,Step'.refl h.inv,fun _ _=>rfl⟩
theorem Jeo{n:Nat}{s:St}{a:Act}(hr:Rel n s a w S hv F)(x:Operand):VR w S hv s.reg (opnd s x) (a.eval x):=by
 cases x with
 |tmp t=>exact hr.sl t
 |func f=>
  simp only[opnd,Act.eval];rw[J8 rfl];simp only[CRep];exact⟨[],rfl,rfl⟩
 |global i=>trivial
 |const v=>
  simp only[opnd,Act.eval]
  cases v with
  |int k m=>
   by_cases h:k.min≤m∧m≤k.max
   ·simp only[h,and_self,decide_true];rw[J1j];exact⟨rfl,h⟩
   ·simp only[h,decide_false];trivial
  |bool b=>exact J3b.2 rfl
  |slice x y z=>
   cases x with
   |some x=>trivial
   |none=>
    cases y with
    |succ y=>trivial
    |zero=>
     cases z with
     |succ z=>trivial
     |zero=>exact(J8 rfl).2 rfl
  |_=>trivial
theorem Jc1{a:Act}{d:Option Nat}{v:Value}{i:Nat}:(a.put d v).tmps.getD i undef=if d=some i∧i<a.tmps.size then v else a.tmps.getD i undef:=by
 cases d with
 |none=>simp[Act.put]
 |some k=>
  simp only[Act.put]
  by_cases h:k=i
  ·subst h
   by_cases h2:k<a.tmps.size
   ·simp[h2]
   ·simp[h2]
  ·simp[h]
theorem J5r{s:St}{d:Option Nat}{x:SV}{i:Nat}:(s.put d x).slot i=if d=some i then x else s.slot i:=by
 cases d with
 |none=>simp[St.put]
 |some k=>
  simp only[St.put];cases h:(i==k)
  ·have:¬k=i:=by intro hh;subst hh;simp at h
   simp[this]
  ·have:i=k:=by simpa using h
   simp[this]
theorem J3z{s:St}{d:Option Nat}{x:SV}:(s.put d x).reg =s.reg:=by cases d<;>rfl
theorem Rel.put{n:Nat}{s:St}{a:Act}(hr:Rel n s a w S hv F){upd:List (Nat×Rg)}{S':Nat→Prop}{hv':Nat→Value}{F':Nat→Nat→Prop}(hs:Step' w S hv F s.reg w' S' hv' F' (J5 s.reg upd)){d:Option Nat}{x:SV}{v:Value}
  (hx:VR w' S' hv' (J5 s.reg upd) x v)(hd:∀k,d=some k→k<n∨x.isDead=true∧(x= .unit ∨x= .dead)):Rel n ({s with reg:=J5 s.reg upd}.put d x) (a.put d v) w' S' hv' F':=by
 refine⟨by rw[J3z];exact hs.inv,fun i=> ?_,?_,?_⟩
 ·rw[J5r,J3z,Jc1]
  by_cases h:d=some i
  ·simp only[h,true_and,if_true]
   by_cases h2:i<a.tmps.size
   ·simp only[h2,if_true];exact hx
   ·simp only[h2,if_false]
    rcases hd i h with h3|⟨_,h3|h3⟩
    ·exact absurd (K16 h3 hr.sz) h2
    ·rw[h3];show _=_;simp[h2,undef]
    ·rw[h3];trivial
  ·simp only[h,false_and,if_false];exact J5w hs.ext _ _ (hr.sl i)
 ·cases d<;>simp[Act.put,hr.df]
 ·have:=hr.sz;cases d<;>simpa[Act.put]using this
theorem Jcd{a:Act}{d:Option Nat}{v:Value}{W:List Nat}(hW:∀k,d=some k→k∈W):∀i,i∉W→(a.put d v).tmps.getD i undef=a.tmps.getD i undef:=by
 intro i hi;rw[Jc1,if_neg]
 rintro⟨h,_⟩
 exact hi (hW i h)
end
end Go.Rf
namespace Go.Rf
section
variable {P:Program} {H:Hints}
theorem J8q{s:St}{q:Nat}{x:SV}(h:s.slot q=x):s.put (some q) x=s:=by
 obtain⟨sl,rg⟩:=s;simp only[St.put,St.mk.injEq,and_true];funext i;cases hq:(i==q)
 ·rfl
 ·have:i=q:=by simpa using hq
  subst this;simpa using h.symm
theorem J6o(g:Look):∀(n:Nat) (l:List Nat) (c:Nat),c∈l→c∈J78 g n l
 |0,l,c,h=>h
 |n+1,l,c,h=>J6o g n _ c (Ke _ h)
theorem J6n(g g2:Look):∀(n:Nat) (l:List Nat),(∀c∈J78 g n l,g2 c=g c)→J78 g2 n l=J78 g n l
 |0,l,_=>rfl
 |n+1,l,h=>by
  simp only[J78]at h⊢;refine Eq.trans (congrArg (fun z=>J78 g2 n (l++z)) ?_) (J6n g g2 n _ h);apply congrArg List.flatten;apply List.map_congr_left;intro c hc;rw[h c (J6o g n _ c (Ke _ hc))]
theorem Ja2{s:St}{o:Oper}{T:List Nat}:∀(l:List (Nat×Rg)),Jbc s o T l=true→∀c r,(c,r)∈l→c∈T∨(J3y o.dst c=true∧s.reg c=none)
 |[],_,c,r,h=>by cases h
 |(k,q)::l,hu,c,r,h=>by
  simp only[Jbc,K7,Bool.or_eq_true]at hu
  rcases Kd.1 h with h|h
  ·cases h
   rcases hu.1 with h1|⟨h1,h2⟩
   ·exact .inl (J21.1 h1)
   ·refine .inr ⟨h1,?_⟩;split at h2
    ·assumption
    ·cases h2
  ·exact Ja2 l hu.2 c r h
theorem J73{s s2:St}{o:Oper}{T:List Nat}(h:∀c,J3y o.dst c=true→s2.reg c=s.reg c):∀(l:List (Nat×Rg)),Jbc s2 o T l=Jbc s o T l
 |[]=>rfl
 |(k,q)::l=>by
  simp only[Jbc,J73 h l];cases hn:J3y o.dst k
  ·simp
  ·rw[h k hn]
theorem Jd2(s s2:St)(v:Value):opnd s2 (.const v)=opnd s (.const v):=by
 cases v<;>try rfl
 rename_i x y z;cases x<;>cases y<;>cases z<;>rfl
theorem J6x{h:FnH}{p:Fns H}{o:Oper}{s s1:St}{t:Tr}(hs:(J2g H h p o s).run =some (s1,t)):
  ∃upd val,s1=({s with reg:=J5 s.reg upd}:St).put o.dst val∧t.changed=upd.map (·.1)∧
   ∀s2:St,(∀d,Operand.tmp d∈o.op.operands.toList→s2.slot d=s.slot d)→(∀c,(c∈t.touched∨J3y o.dst c=true)→s2.reg c=s.reg c)→
    (J2g H h p o s2).run =some (({s2 with reg:=J5 s2.reg upd}:St).put o.dst val,t):=by
 unfold J2g at hs;simp only[M.run_bind]at hs;generalize hargs:o.op.operands.toList.map (opnd s)=args at hs;generalize hT:J6z o.op s args=T at hs;obtain⟨e,he,hs⟩:=Ki.1 hs
 ·split at hs
  ·rename_i hchk;simp only[M.run,K0,K6]at hs;obtain⟨h1,h2⟩:=hs;subst h1 h2;refine⟨e.upd,e.val,rfl,rfl,fun s2 hsl hrg=> ?_⟩;simp only at hrg
   have hargs2:o.op.operands.toList.map (opnd s2)=args:=by
    rw[←hargs];apply List.map_congr_left;intro x hx
    cases x with
    |tmp d=>exact hsl d hx
    |const v=>exact Jd2 s s2 v
    |global i=>rfl
    |func f=>rfl
   have hT2:J6z o.op s2 args=T:=by
    have gen:∀args,J70 s args=T→J70 s2 args=T:=fun args hT=>by
     rw[←hT];unfold J70
     exact J6n _ _ _ _ fun c hc=>hrg c (.inl (by rw[←hT];exact hc))
    revert hT;unfold J6z;split
    ·exact id
    ·exact id
    ·exact id
    ·exact id
    ·rename_i c p _;intro hT
     have hcc:s2.reg c=s.reg c:=by
      refine hrg c (.inl ?_);rw[←hT];split
      ·simp
      ·exact J6o _ _ _ _ (by simp[SV.refs])
     rw[hcc];split at hT
     ·exact hT
     ·exact gen _ hT
    ·exact gen _
   have hlook:J3r s2 o T=J3r s o T:=by
    funext c;unfold J3r;cases hb:(hasN T c||J3y o.dst c)
    ·rfl
    ·simp only[cond_true];refine hrg c ?_
     rcases Bool.or_eq_true_iff.1 hb with h|h
     ·exact .inl (J21.1 h)
     ·exact .inr h
   unfold J2g;simp only[M.run_bind,hargs2,hT2,hlook,he,K1k];rw[J73 (fun c hc=>hrg c (.inr hc)),hchk];rfl
  ·simp[M.run]at hs
variable {w w':World} {S S':Nat→Prop} {hv hv':Nat→Value} {F F':Nat→Nat→Prop} {g g' gl:Look}
theorem J5d(hf:Fit P H){h:FnH}{p:Fns H}(hp:∀key x y,p.call key x=some y→J2l P H key x y){o:Oper}{s s1:St}{t:Tr}{a:Act}(hr:Rel h.f.ntmps s a w S hv F)(hs:(J2g H h p o s).run =some (s1,t))
  {W:List Nat}(hW:∀k,o.dst=some k→k∈W){K:Act→World→Prop}{Q:Exit→Act→World→Prop}(hK:∀a' w',J1v h.f.ntmps W a w S hv F s.reg s1 a' w'→K a' w'):o.wp P a w K Q:=by
 unfold J2g at hs;simp only[M.run_bind]at hs;generalize hargs:o.op.operands.toList.map (opnd s)=args at hs;generalize hT:J6z o.op s args=T at hs;obtain⟨e,he,hs⟩:=Ki.1 hs
 ·split at hs
  ·rename_i hchk;simp only[M.run,K0,K6]at hs;obtain⟨h1,h2⟩:=hs;subst h1 h2;have hchk:=K28.1 hchk
   have hl:∀c r,J3r s o T c=some r→s.reg c=some r:=by
    intro c r hc;unfold J3r at hc;cases hb:(hasN T c||J3y o.dst c)
    ·simp[hb]at hc
    ·simpa[hb]using hc
   have hshow:∀c,(c∈T∨J3y o.dst c=true)→J3r s o T c=s.reg c:=by
    intro c hc;unfold J3r
    have:(hasN T c||J3y o.dst c)=true:=by
     rcases hc with hc|hc
     ·simp[J21.2 hc]
     ·simp[hc]
    rw[this];rfl
   have hd:∀d,d=(match o.dst with
    |some d=>d
    |none=>4095)→J3r s o T d=none→s.reg d=none:=by
    intro d hd hn;rw[←hshow d ?_]
    ·exact hn
    ·refine .inr ?_;subst hd
     cases hdst:o.dst with
     |none=>rfl
     |some k=>
      rw[hdst]at hchk;simp only[K7,decide_eq_true_eq]at hchk;simp only[J3y,beq_iff_eq];exact K2a hchk.2.2
   have hup:∀c r,(c,r)∈e.upd→J3r s o T c=none→s.reg c=none:=by
    intro c r hc hn
    rcases Ja2 _ hchk.1 c r hc with h1|⟨_,h1⟩
    ·rw[←hshow c (.inl h1)];exact hn
    ·exact h1
   have ha:All2 (fun a v=>VR w S hv s.reg a v) args (o.op.operands.toList.map a.eval):=by
    rw[←hargs]
    exact All2.map _ fun x _=>Jeo hr x
   have hres:=Jfm hf hr.inv hl o a.eval h hp (hd _ rfl) ha he hup
   refine hres.wp fun v w' hout=>hK _ _ ?_
   obtain⟨S',hv',F',h3,h4⟩:=hout;refine⟨S',hv',F',hr.put h3 h4 fun k hk=> ?_,by rw[J3z];exact h3,Jcd hW⟩;rw[hk]at hchk;simp only[K7,decide_eq_true_eq]at hchk;exact .inl hchk.2.1
  ·simp[M.run]at hs
theorem Ja5{ops:Array Oper}{j q:Nat}{a:Act}{b:Bool}(hq:Jar ops j=some q)(h:a.tmps.getD q undef= .bool b):yielded ops a.tmps j=some b:=by
 unfold Jar at hq;unfold yielded
 cases ho:ops[j]? with
 |none=>simp[ho]at hq
 |some o=>
  simp only[ho]at hq;simp only[K1k,hq]
  by_cases hlt:q<a.tmps.size
  ·have:a.tmps[q]? =some (.bool b):=by
    rw[K15]at h;simp only[hlt,K1i,Option.getD_some]at h⊢;rw[h]
   rw[this]
  ·rw[K15,Array.getElem?_eq_none (by omega)]at h;simp[undef]at h
theorem Ja6{ops:Array Oper}{j q:Nat}{a:Act}(hq:Jar ops j=some q)(h:a.tmps.getD q undef= .tuple #[]):yielded ops a.tmps j=none:=by
 unfold Jar at hq;unfold yielded
 cases ho:ops[j]? with
 |none=>simp[ho]at hq
 |some o=>
  simp only[ho]at hq;simp only[K1k,hq]
  by_cases hlt:q<a.tmps.size
  ·have:a.tmps[q]? =some (.tuple #[]):=by
    rw[K15]at h;simp only[hlt,K1i,Option.getD_some]at h⊢;rw[h]
   rw[this]
  ·rw[Array.getElem?_eq_none (by omega)]
def Turn(P:Program)(ops:Array Oper)(o:Oper)(Q:Exit→Act→World→Prop)(K:Act→World→Prop)(a:Act)(w:World):Prop:=
 if Region.wanted o (yielded ops a.tmps)then o.wp P a w K Q∨(o.asks P a w∧LetsOut Q)else K (a.put o.dst undef) w
theorem J7u{n:Nat}{s:St}{a:Act}(hr:Rel n s a w S hv F)(d:Option Nat){W:List Nat}(hW:∀k,d=some k→k∈W):J1v n W a w S hv F s.reg (s.put d .unit) (a.put d undef) w:=by
 refine⟨S,hv,F,?_,by rw[J3z];exact Step'.refl hr.inv,Jcd hW⟩
 exact hr.put (upd:=[]) (Step'.refl hr.inv) (x:= .unit) (v:=undef) rfl fun k _=> .inr ⟨rfl,.inl rfl⟩
theorem J6q(hf:Fit P H){h:FnH}{p:Fns H}(hp:∀key x y,p.call key x=some y→J2l P H key x y){ops:Array Oper}{o:Oper}{s s1:St}{t:Tr}{a:Act}(hr:Rel h.f.ntmps s a w S hv F)(hs:(J41 H h p ops o s).run =some (s1,t))
  {W:List Nat}(hW:∀k,o.dst=some k→k∈W){K:Act→World→Prop}{Q:Exit→Act→World→Prop}(hK:∀a' w',J1v h.f.ntmps W a w S hv F s.reg s1 a' w'→K a' w'):Turn P ops o Q K a w:=by
 unfold Turn;unfold J41 at hs;split at hs
 ·rename_i hg;simp only[Region.wanted,hg,if_true];exact .inl (J5d hf hp hr hs hW hK)
 ·rename_i j want hg;split at hs
  ·rename_i q hq;split at hs
   ·rename_i b hb;have hsame:=J8q hb
    have hvb:a.tmps.getD q undef= .bool b:=by
     have:=hr.sl q;rw[hb]at this;exact J3b.1 this
    have hy:=Ja5 hq hvb
    have hgo:((match b==want with
     |true=>J2g H h p o s
     |false=> .ret (s.put o.dst .unit,⟨[],[]⟩)):M (St×Tr)).run =some (s1,t):=by
     simp only[M.run]at hs;cases b
     ·simp only[cond_false]at hs;rw[hsame]at hs;exact hs
     ·simp only[cond_true]at hs;rw[hsame]at hs;exact hs
    simp only[Region.wanted,hg,hy];split at hgo
    ·rename_i hbw
     have:b=want:=by simpa using hbw
     subst this;simp only[BEq.rfl,if_true];exact .inl (J5d hf hp hr hgo hW hK)
    ·rename_i hbw
     have:¬b=want:=by simpa using hbw
     have h2:(some b==some want)=false:=by simpa using this
     simp only[h2];simp only[M.run,K0,K6]at hgo;obtain⟨rfl,rfl⟩:=hgo;exact hK _ _ (J7u hr o.dst hW)
   ·rename_i hb
    have hvb:a.tmps.getD q undef= .tuple #[]:=by
     have:=hr.sl q;rw[hb]at this;exact this
    simp only[Region.wanted,hg,Ja6 hq hvb];simp only[M.run,K0,K6]at hs;obtain⟨rfl,rfl⟩:=hs;exact hK _ _ (J7u hr o.dst hW)
   ·simp[M.run]at hs
  ·simp[M.run]at hs
theorem J5c(hf:Fit P H){h:FnH}{p:Fns H}(hp:∀key x y,p.call key x=some y→J2l P H key x y){ops:Array Oper}{Q:Exit→Act→World→Prop}{W:List Nat}:∀(l:List Oper) {s s1:St} {ts:List Tr} {a:Act} {w:World} {S:Nat→Prop} {hv:Nat→Value} {F:Nat→Nat→Prop},Rel h.f.ntmps s a w S hv F→(J2r H h p ops l s).run =some (s1,ts)→(∀o∈l,∀k,o.dst=some k→k∈W)→
  (∀a' w',J1v h.f.ntmps W a w S hv F s.reg s1 a' w'→Q .normal a' w')→wpList P ops Q l a w
 |[],s,s1,ts,a,w,S,hv,F,hr,hs,hW,hK=>by
  simp only[J2r,M.run,K0,K6]at hs;obtain⟨rfl,rfl⟩:=hs;exact hK _ _ (J1v.refl hr)
 |o::l,s,s1,ts,a,w,S,hv,F,hr,hs,hW,hK=>by
  simp only[J2r,M.run_bind]at hs
  cases h1:(J41 H h p ops o s).run with
  |none=>simp[h1]at hs
  |some r1=>
   obtain⟨s2,t⟩:=r1;simp only[h1,K1k,M.run_bind]at hs
   cases h2:(J2r H h p ops l s2).run with
   |none=>simp[h2]at hs
   |some r2=>
    obtain⟨s3,ts'⟩:=r2;simp only[h2,K1k,M.run,K0,K6]at hs;obtain⟨rfl,rfl⟩:=hs;show Turn P ops o Q (wpList P ops Q l) a w
    refine J6q hf hp hr h1 (hW o (by simp)) fun a' w' hl=> ?_
    obtain⟨S',hv',F',h3,h4,h7⟩:=hl
    refine J5c hf hp l h3 h2 (fun u hu=>hW u (K9 _ hu)) fun a2 w2 hl2=>hK _ _ ?_
    obtain⟨S2,hv2,F2,h5,h6,h8⟩:=hl2;exact⟨S2,hv2,F2,h5,h4.trans h6,fun i hi=>by rw[h8 i hi,h7 i hi]⟩
end
end Go.Rf
namespace Go.Rf
theorem J55{acc:Array Nat}:∀(es:List Edge) (s0 i:Nat),(es.foldl (fun s e=>if Region.binds .any e then s|||2^e.on|||acc.getD e.on 0 else s) s0).testBit i=true→
  s0.testBit i=true∨∃e∈es,Region.binds .any e=true∧(i=e.on∨(acc.getD e.on 0).testBit i=true)
 |[],s0,i,h=> .inl h
 |e::es,s0,i,h=>by
  simp only[K17]at h
  rcases J55 es _ i h with h|⟨e',h1,h2⟩
  ·split at h
   ·rename_i hb;rw[Nat.testBit_or,Nat.testBit_or]at h;simp only[Bool.or_eq_true]at h
    rcases h with(h|h)|h
    ·exact .inl h
    ·refine .inr ⟨e,by simp,hb,.inl ?_⟩;rw[Nat.testBit_two_pow]at h;simpa using(of_decide_eq_true h).symm
    ·exact .inr ⟨e,by simp,hb,.inr h⟩
   ·exact .inl h
  ·exact .inr ⟨e',K9 _ h1,h2⟩
def J83(ops:List Oper)(acc:Array Nat):Prop:=∀j i,(acc.getD j 0).testBit i=true→∃o,ops[j]? =some o∧∃e∈o.after.toList,Region.binds .any e=true∧(i=e.on∨(acc.getD e.on 0).testBit i=true)
theorem J29{acc:Array Nat}{j i:Nat}(h:(acc.getD j 0).testBit i=true):j<acc.size:=by
 rcases Nat.lt_or_ge j acc.size with h1|h1
 ·exact h1
 ·rw[K15,Array.getElem?_eq_none h1]at h;simp at h
theorem J6c{acc:Array Nat}{x:Nat}{j:Nat}(h:j<acc.size):(acc.push x).getD j 0=acc.getD j 0:=by
 rw[K15,K15,Array.getElem?_push]
 have:j≠acc.size:=by omega
 simp[this]
theorem J60:∀(l done:List Oper) (acc:Array Nat),acc.size=done.length→J83 (done++l) acc→J83 (done++l) (l.foldl (fun acc (o:Oper)=>acc.push (o.after.foldl (fun s e=>if Region.binds .any e then s|||2^e.on|||acc.getD e.on 0 else s) 0)) acc)
 |[],done,acc,_,h=>h
 |o::l,done,acc,hsz,h=>by
  simp only[K17];have:=J60 l (done++[o]) (acc.push (o.after.foldl (fun s e=>if Region.binds .any e then s|||2^e.on|||acc.getD e.on 0 else s) 0)) (by simp[hsz]) ?_
  ·simpa using this
  ·intro j i hb;have hlt:=J29 hb;simp only[Array.size_push]at hlt
   by_cases hj:j<acc.size
   ·rw[J6c hj]at hb;obtain⟨o',h1,e,h2,h3,h4⟩:=h j i hb;refine⟨o',by simpa using h1,e,h2,h3,?_⟩
    rcases h4 with h4|h4
    ·exact .inl h4
    ·exact .inr (by rw[J6c (J29 h4)];exact h4)
   ·have hj:j=acc.size:=by omega
    subst hj
    have hx:(acc.push (o.after.foldl (fun s e=>if Region.binds .any e then s|||2^e.on|||acc.getD e.on 0 else s) 0)).getD acc.size 0=o.after.foldl (fun s e=>if Region.binds .any e then s|||2^e.on|||acc.getD e.on 0 else s) 0:=by
     rw[K15,Array.getElem?_push];simp
    rw[hx,←Array.foldl_toList]at hb
    rcases J55 _ _ i hb with h1|⟨e,h1,h2,h3⟩
    ·simp at h1
    ·refine⟨o,by simp[hsz],e,h1,h2,?_⟩
     rcases h3 with h3|h3
     ·exact .inl h3
     ·exact .inr (by rw[J6c (J29 h3)];exact h3)
theorem Jdy(ops:Array Oper):J83 ops.toList (Region.before ops):=by
 have:=J60 ops.toList [] #[] rfl (fun j i h=>by simp at h);rw[Kt]at this;unfold Region.before;rw[←Array.foldl_toList];exact this
theorem J80{ops:Array Oper}{i j:Nat}(h:J8x ops i j=true):∃o,ops[j]? =some o∧∃e∈o.after,Region.binds .any e=true∧(i=e.on∨((Region.before ops).getD e.on 0).testBit i=true):=by
 obtain⟨o,h1,e,h2,h3⟩:=Jdy ops j i h;exact⟨o,by simpa using h1,e,by simpa using h2,h3⟩
section
variable {P:Program} {H:Hints}
theorem J7t{h:FnH}{p:Fns H}{ops:Array Oper}{o:Oper}{s s1:St}{t:Tr}(hs:(J41 H h p ops o s).run =some (s1,t)):
  ∃upd val,s1=({s with reg:=J5 s.reg upd}:St).put o.dst val∧t.changed=upd.map (·.1)∧
   ∀s2:St,(∀d∈J4i ops o,s2.slot d=s.slot d)→(∀c,(c∈t.touched∨J3y o.dst c=true)→s2.reg c=s.reg c)→
    (J41 H h p ops o s2).run =some (({s2 with reg:=J5 s2.reg upd}:St).put o.dst val,t):=by
 have htmp:∀d,Operand.tmp d∈o.op.operands.toList→d∈J4i ops o:=by
  intro d hd;unfold J4i;exact Ke _ (List.mem_filterMap.2 ⟨.tmp d,hd,rfl⟩)
 unfold J41 at hs;split at hs
 ·rename_i hg;obtain⟨upd,val,h1,h2,h3⟩:=J6x hs;refine⟨upd,val,h1,h2,fun s2 k1 k2=> ?_⟩;unfold J41;rw[hg];exact h3 s2 (fun d hd=>k1 d (htmp d hd)) k2
 ·rename_i j want hg;split at hs
  ·rename_i q hq
   have hqm:q∈J4i ops o:=by
    unfold J4i;rw[hg];refine Kw _ ?_;simp only[hq];simp
   split at hs
   ·rename_i b hb;have hsame:=J8q hb
    have hgo:((match b==want with
     |true=>J2g H h p o s
     |false=> .ret (s.put o.dst .unit,⟨[],[]⟩)):M (St×Tr)).run =some (s1,t):=by
     simp only[M.run]at hs;cases b
     ·simp only[cond_false]at hs;rw[hsame]at hs;exact hs
     ·simp only[cond_true]at hs;rw[hsame]at hs;exact hs
    have hback:∀s2:St,s2.slot q=s.slot q→(J41 H h p ops o s2).run =((match b==want with
     |true=>J2g H h p o s2
     |false=> .ret (s2.put o.dst .unit,⟨[],[]⟩)):M (St×Tr)).run :=by
     intro s2 h2;rw[hb]at h2;have hsame2:=J8q h2;unfold J41;rw[hg];simp only[hq];rw[h2];simp only[M.run];cases b
     ·simp only[cond_false];rw[hsame2];rfl
     ·simp only[cond_true];rw[hsame2];rfl
    split at hgo
    ·rename_i hbw;obtain⟨upd,val,h1,h2,h3⟩:=J6x hgo;refine⟨upd,val,h1,h2,fun s2 k1 k2=> ?_⟩;rw[hback s2 (k1 q hqm),hbw];exact h3 s2 (fun d hd=>k1 d (htmp d hd)) k2
    ·rename_i hbw;simp only[M.run,K0,K6]at hgo;obtain⟨rfl,rfl⟩:=hgo;refine⟨[],.unit,rfl,rfl,fun s2 k1 k2=> ?_⟩;rw[hback s2 (k1 q hqm),hbw];rfl
   ·rename_i hb;simp only[M.run,K0,K6]at hs;obtain⟨rfl,rfl⟩:=hs;refine⟨[],.unit,rfl,rfl,fun s2 k1 k2=> ?_⟩;have h2:=k1 q hqm;rw[hb]at h2;unfold J41;rw[hg];simp only[hq];rw[h2];rfl
   ·simp[M.run]at hs
  ·simp[M.run]at hs
def Jf5(ops:Array Oper)(x y:Nat×Oper×Tr):Prop:=Jae ops x.2.1 y.2.1=true∧Jaf x.2.2 y.2.2=true∧J8a x.2.1 y.2.1 x.2.2 y.2.2=true
inductive Runs (H:Hints) (h:FnH) (p:Fns H) (ops:Array Oper):St→List (Nat×Oper×Tr)→St→Prop where
 |nil {s:St}:Runs H h p ops s [] s
 |cons {s s1 s2:St} {i:Nat} {o:Oper} {t:Tr} {L:List (Nat×Oper×Tr)}:(J41 H h p ops o s).run =some (s1,t)→Runs H h p ops s1 L s2→Runs H h p ops s ((i,o,t)::L) s2
theorem J5q{l:List Nat}{n:Nat}:(!hasN l n)=true↔n∉l:=by
 rw[K1r,←Bool.not_eq_true,J21]
theorem J7x{g g':Look}{l:List (Nat×Rg)}{c:Nat}(h:c∈l.map (·.1)):J5 g l c=J5 g' l c:=by
 induction l with
 |nil=>cases h
 |cons a l ih=>
  obtain⟨k,q⟩:=a;rw[J7,J7];split
  ·rfl
  ·rename_i hk;exact ih (by simpa[hk]using h)
theorem Jbd{g:Look}{l m:List (Nat×Rg)}(h:∀c∈l.map (·.1),c∉m.map (·.1)):J5 (J5 g l) m=J5 (J5 g m) l:=by
 funext c
 by_cases h1:c∈l.map (·.1)
 ·rw[J15 (h c h1)];exact J7x h1
 ·rw[J15 (g:=J5 g m) h1]
  by_cases h2:c∈m.map (·.1)
  ·exact J7x h2
  ·rw[J15 h2,J15 h1,J15 h2]
theorem Runs.swap{h:FnH}{p:Fns H}{ops:Array Oper}{x y:Nat×Oper×Tr}{L:List (Nat×Oper×Tr)}{s s':St}(hr:Runs H h p ops s (x::y::L) s')(ha:Jf5 ops x y):Runs H h p ops s (y::x::L) s':=by
 cases hr with
 |cons r1 hr=>
  rename_i s1 i o t
  cases hr with
  |cons r2 hr=>
   rename_i s2 j u v;obtain⟨a1,a2,a3⟩:=ha;simp only at a1 a2 a3;unfold Jae at a1;unfold Jaf at a2;unfold J8a at a3;simp only[K7,K11,J5q]at a1 a2 a3;obtain⟨⟨a11,a12⟩,a13⟩:=a1;obtain⟨upd,val,e1,e2,e3⟩:=J7t r1;obtain⟨upd',val',f1,f2,f3⟩:=J7t r2
   have hd1:∀d,u.dst=some d→d∉J4i ops o:=by
    intro d hd;rw[hd]at a11;exact J5q.1 a11
   have hd2:∀d,o.dst=some d→d∉J4i ops u:=by
    intro d hd;rw[hd]at a12;exact J5q.1 a12
   have hd3:∀d,o.dst=some d→u.dst≠some d:=by
    intro d hd hu;rw[hd,hu]at a13;simp at a13
   have g1:=f3 s (fun d hd=>by
    rw[e1,J5r];split
    ·rename_i h1;exact absurd hd (hd2 d h1)
    ·rfl) (fun c hc=>by
    rw[e1,J3z];refine(J15 ?_).symm;rw[←e2];intro hcm
    rcases hc with hc|hc
    ·exact(a2.1 c hcm).1 hc
    ·have:=a3.2 c hcm;rw[hc]at this
     cases this)
   have g2:=e3 (({s with reg:=J5 s.reg upd'}:St).put u.dst val') (fun d hd=>by
    rw[J5r];split
    ·rename_i h1;exact absurd hd (hd1 d h1)
    ·rfl) (fun c hc=>by
    rw[J3z];refine J15 ?_;rw[←f2];intro hcm
    rcases hc with hc|hc
    ·exact a2.2 c hcm hc
    ·have:=a3.1 c hcm;rw[hc]at this
     cases this)
   have hdis:∀c∈upd'.map (·.1),c∉upd.map (·.1):=by
    intro c hc hc';rw[←f2]at hc;rw[←e2]at hc';exact(a2.1 c hc').2 hc
   have hfin:({(({s with reg:=J5 s.reg upd'}:St).put u.dst val')with reg:=J5 (({s with reg:=J5 s.reg upd'}:St).put u.dst val').reg upd}:St).put o.dst val=s2:=by
    rw[f1,e1]
    have hslot:∀i,((({(({s with reg:=J5 s.reg upd'}:St).put u.dst val')with reg:=J5 (({s with reg:=J5 s.reg upd'}:St).put u.dst val').reg upd}:St).put o.dst val).slot i)=(({(({s with reg:=J5 s.reg upd}:St).put o.dst val)with reg:=J5 (({s with reg:=J5 s.reg upd}:St).put o.dst val).reg upd'}:St).put u.dst val').slot i:=by
     intro i;simp only[J5r]
     by_cases h1:o.dst=some i
     ·have h2:u.dst≠some i:=hd3 i h1;simp[h1,h2]
     ·simp[h1]
    have hreg:((({(({s with reg:=J5 s.reg upd'}:St).put u.dst val')with reg:=J5 (({s with reg:=J5 s.reg upd'}:St).put u.dst val').reg upd}:St).put o.dst val).reg)=(({(({s with reg:=J5 s.reg upd}:St).put o.dst val)with reg:=J5 (({s with reg:=J5 s.reg upd}:St).put o.dst val).reg upd'}:St).put u.dst val').reg :=by
     simp only[J3z];exact Jbd hdis
    have hext:∀a b:St,(∀i,a.slot i=b.slot i)→a.reg=b.reg→a=b:=by
     intro a b h1 h2;obtain⟨a1,a2⟩:=a;obtain⟨b1,b2⟩:=b;have:a1=b1:=funext h1;subst this;simp only at h2;subst h2;rfl
    exact hext _ _ hslot hreg
   rw[hfin]at g2;exact .cons g1 (.cons g2 hr)
theorem Runs.front{h:FnH}{p:Fns H}{ops:Array Oper}{y:Nat×Oper×Tr}{L:List (Nat×Oper×Tr)}:∀(L1:List (Nat×Oper×Tr)) {s s':St},Runs H h p ops s (L1++y::L) s'→(∀x∈L1,Jf5 ops x y)→Runs H h p ops s (y::(L1++L)) s'
 |[],s,s',hr,_=>hr
 |x::L1,s,s',hr,ha=>by
  cases hr with
  |cons r1 hr=>
   have:=Runs.front L1 hr (fun z hz=>ha z (K9 _ hz));exact(Runs.cons r1 this).swap (ha _ (by simp))
def zip3:Nat→List Oper→List Tr→List (Nat×Oper×Tr)
 |i,o::os,t::ts=>(i,o,t)::zip3 (i+1) os ts
 |_,_,_=>[]
theorem Jev{h:FnH}{p:Fns H}{ops:Array Oper}:∀(l:List Oper) (i:Nat) {s s':St} {ts:List Tr},(J2r H h p ops l s).run =some (s',ts)→Runs H h p ops s (zip3 i l ts) s'∧ts.length=l.length
 |[],i,s,s',ts,hr=>by
  simp only[J2r,M.run,K0,K6]at hr;obtain⟨rfl,rfl⟩:=hr;exact⟨.nil,rfl⟩
 |o::l,i,s,s',ts,hr=>by
  simp only[J2r,M.run_bind]at hr
  cases h1:(J41 H h p ops o s).run with
  |none=>simp[h1]at hr
  |some r1=>
   obtain⟨s2,t⟩:=r1;simp only[h1,K1k,M.run_bind]at hr
   cases h2:(J2r H h p ops l s2).run with
   |none=>simp[h2]at hr
   |some r2=>
    obtain⟨s3,ts'⟩:=r2;simp only[h2,K1k,M.run,K0,K6]at hr;obtain⟨rfl,rfl⟩:=hr;obtain⟨k1,k2⟩:=Jev l (i+1) h2;exact⟨.cons h1 k1,by simp[k2]⟩
theorem J5t:∀(l:List Oper) (ts:List Tr) (i:Nat) (x:Nat×Oper×Tr),x∈zip3 i l ts→∃k,x.1=i+k∧l[k]? =some x.2.1
 |[],ts,i,x,h=>by simp[zip3]at h
 |o::l,[],i,x,h=>by simp[zip3]at h
 |o::l,t::ts,i,x,h=>by
  simp only[zip3]at h
  rcases Kd.1 h with rfl|h
  ·exact⟨0,rfl,rfl⟩
  ·obtain⟨k,h1,h2⟩:=J5t l ts (i+1) x h;exact⟨k+1,by omega,by simpa using h2⟩
theorem Jck:∀(l:List Oper) (ts:List Tr) (i k:Nat),ts.length=l.length→k<l.length→∃x∈zip3 i l ts,x.1=i+k
 |[],ts,i,k,_,h=>by simp at h
 |o::l,[],i,k,h,_=>by simp at h
 |o::l,t::ts,i,0,_,_=>⟨(i,o,t),by simp[zip3],rfl⟩
 |o::l,t::ts,i,k+1,h1,h2=>by
  obtain⟨x,h3,h4⟩:=Jck l ts (i+1) k (by simpa using h1) (by simpa using h2);exact⟨x,by simp only[zip3];exact K9 _ h3,by omega⟩
theorem J75:∀(l:List Oper) (ts:List Tr) (i:Nat),ts.length=l.length→(zip3 i l ts).length =l.length
 |[],[],i,_=>rfl
 |o::l,[],i,h=>by simp at h
 |[],t::ts,i,h=>by simp at h
 |o::l,t::ts,i,h=>by simp only[zip3,Kq];rw[J75 l ts (i+1) (by simpa using h)]
def Jdm(ops:Array Oper)(x y:Nat×Oper×Tr):Prop:=x.1<y.1∧(J8x ops x.1 y.1=true∨Jf5 ops x y)
theorem Jcb{ops:Array Oper}{i:Nat}{o:Oper}{t:Tr}:∀(l:List Oper) (ts:List Tr) (j:Nat),i<j→J8p ops i o t j l ts=true→∀y∈zip3 j l ts,Jdm ops (i,o,t) y
 |[],ts,j,_,_,y,hy=>by simp[zip3]at hy
 |u::l,[],j,_,_,y,hy=>by simp[zip3]at hy
 |u::l,v::ts,j,hij,hp,y,hy=>by
  simp only[J8p,K7,Bool.or_eq_true]at hp;simp only[zip3]at hy
  rcases Kd.1 hy with rfl|hy
  ·refine⟨hij,?_⟩
   rcases hp.1 with h1|⟨⟨h1,h2⟩,h3⟩
   ·exact .inl h1
   ·exact .inr ⟨h1,h2,h3⟩
  ·exact Jcb l ts (j+1) (by omega) hp.2 y hy
theorem J5y{ops:Array Oper}:∀(l:List Oper) (ts:List Tr) (i:Nat),J48 ops i l ts=true→(zip3 i l ts).Pairwise (Jdm ops)
 |[],ts,i,_=>by simp[zip3]
 |o::l,[],i,_=>by simp[zip3]
 |o::l,t::ts,i,h=>by
  simp only[J48,K7]at h;simp only[zip3,List.pairwise_cons];exact⟨Jcb l ts (i+1) (by omega) h.1,J5y l ts (i+1) h.2⟩
theorem Jbv:∀(l:List Oper) (i:Nat),J4s i l=true→∀k o,l[k]? =some o→∀e∈o.after,Region.binds .any e=true→e.on<i+k
 |[],i,_,k,o,h=>by simp at h
 |u::l,i,h,k,o,ho=>by
  simp only[J4s,K7,K11,Bool.or_eq_true,K1r,Nat.blt_eq]at h
  cases k with
  |zero=>
   simp at ho;subst ho;intro e he hb
   rcases h.1 e (by simpa using he)with h1|h1
   ·rw[hb]at h1;cases h1
   ·simpa using h1
  |succ k=>
   intro e he hb;have:=Jbv l (i+1) h.2 k o (by simpa using ho) e he hb;omega
variable {w:World} {S:Nat→Prop} {hv:Nat→Value} {F:Nat→Nat→Prop} {g:Look}
theorem Jaq(hf:Fit P H){h:FnH}{p:Fns H}(hp:∀key x y,p.call key x=some y→J2l P H key x y){ops:Array Oper}(hed:J4s 0 ops.toList=true){Q:Exit→Act→World→Prop}{s':St}{W:List Nat}:∀(n:Nat) (L:List (Nat×Oper×Tr)) {s:St} {a:Act} {w:World} {S:Nat→Prop} {hv:Nat→Value} {F:Nat→Nat→Prop} (listed:Array Bool),L.length=n→listed.size=ops.size→
  Rel h.f.ntmps s a w S hv F→Runs H h p ops s L s'→L.Pairwise (Jdm ops)→(∀x∈L,∀k,x.2.1.dst=some k→k∈W)→(∀x∈L,ops[x.1]? =some x.2.1)→(∀i,i<ops.size→listed.getD i true=false→∃x∈L,x.1=i)→(∀x∈L,listed.getD x.1 true=false)→
  (∀j,listed.getD j false=true→∀i,((Region.before ops).getD j 0).testBit i=true→listed.getD i false=true)→
  (∀a' w',J1v h.f.ntmps W a w S hv F s.reg s' a' w'→Q .normal a' w')→wpAny P .any ops Q n listed a w:=by
 intro n
 induction n with
 |zero=>
  intro L s a w S hv F listed hn hsz hr hruns hpw hWs hops hall hun hcl hK
  have:L=[]:=by simpa using hn
  subst this;refine⟨?_,?_⟩
  ·rw[List.eq_nil_iff_forall_not_mem];intro i hi;obtain⟨h1,o,h2,_⟩:=mem_ready.1 hi;obtain⟨x,hx,_⟩:=hall i (K1v.1 h2).1 h1;cases hx
  ·cases hruns;exact hK _ _ (J1v.refl hr)
 |succ n ih=>
  intro L s a w S hv F listed hn hsz hr hruns hpw hWs hops hall hun hcl hK
  have hlisted:∀i,i<ops.size→listed.getD i false=false→listed.getD i true=false:=by
   intro i hi h0
   have hlt:i<listed.size:=by omega
   rw[K15,K1i hlt]at h0⊢;simpa using h0
  have hunl:∀x∈L,listed.getD x.1 false=false:=by
   intro x hx;have h0:=hun x hx
   rcases Nat.lt_or_ge x.1 listed.size with hlt|hge
   ·rw[K15,K1i hlt]at h0⊢;simpa using h0
   ·rw[K15,Array.getElem?_eq_none hge];rfl
  refine⟨fun hnil=> ?_,fun i hi=> ?_⟩
  ·exfalso
   cases L with
   |nil=>simp at hn
   |cons x L=>
    have:x.1∈Region.ready .any ops listed:=by
     refine mem_ready.2 ⟨hun x (by simp),x.2.1,hops x (by simp),fun e he hb=> ?_⟩;have hop:=hops x (by simp);have hlt:=Jbv ops.toList 0 hed x.1 x.2.1 (by simpa using hop) e he hb;have hxs:=(K1v.1 hop).1
     cases hle:listed.getD e.on false with
     |true=>rfl
     |false=>
      obtain⟨y,hy,hye⟩:=hall e.on (by omega) (hlisted _ (by omega) hle)
      rcases Kd.1 hy with rfl|hy
      ·omega
      ·have:=((List.pairwise_cons.1 hpw).1 y hy).1;omega
    rw[hnil]at this;cases this
  ·obtain⟨h1,o,h2,h3⟩:=mem_ready.1 hi;obtain⟨x,hx,hxi⟩:=hall i (K1v.1 h2).1 h1;obtain⟨L1,L2,rfl⟩:=List.append_of_mem hx;obtain⟨i',o',t⟩:=x;simp only at hxi;subst hxi
   have ho:o'=o:=by
    have:=hops (i',o',t) hx;simp only at this;rw[h2]at this;simpa using this.symm
   subst ho
   have hap:∀z∈L1,Jf5 ops z (i',o',t):=by
    intro z hz;have hpz:=(List.pairwise_append.1 hpw).2.2 z hz (i',o',t) (by simp)
    rcases hpz.2 with h4|h4
    ·exfalso;obtain⟨o2,k1,e,k2,k3,k4⟩:=J80 h4;simp only at k1;rw[h2]at k1;simp only[K0]at k1;subst k1;have hle:=h3 e k2 k3;have hz0:=hunl z (Ke _ hz)
     rcases k4 with k4|k4
     ·rw[k4,hle]at hz0;cases hz0
     ·rw[hcl _ hle _ k4]at hz0;cases hz0
    ·exact h4
   have hfr:=Runs.front L1 hruns hap
   cases hfr with
   |cons r1 hfr=>
    rename_i s1;have hsub:(L1++L2).Sublist (L1++(i',o',t)::L2):=List.Sublist.append_left (List.sublist_cons_self _ _) L1
    have hne:∀z∈L1++L2,z.1≠i':=by
     intro z hz
     rcases Kl.1 hz with hz|hz
     ·have:=((List.pairwise_append.1 hpw).2.2 z hz (i',o',t) (by simp)).1;simp only at this;omega
     ·have:=((List.pairwise_cons.1 (List.pairwise_append.1 hpw).2.1).1 z hz).1;simp only at this;omega
    have hturn:Turn P ops o' Q (wpAny P .any ops Q n (listed.setIfInBounds i' true)) a w:=by
     refine J6q hf hp hr r1 (hWs (i',o',t) hx) fun a' w' hlead=> ?_
     obtain⟨S',hv',F',q1,q2,q5⟩:=hlead;refine ih (L1++L2) (listed.setIfInBounds i' true) (by simp at hn⊢;omega) (by simp[hsz]) q1 hfr (hpw.sublist hsub) (fun z hz=>hWs z (hsub.subset hz)) (fun z hz=>hops z (hsub.subset hz)) ?_ ?_ ?_ ?_
     ·intro k hk hkl
      by_cases hki:i'=k
      ·subst hki;rw[K15]at hkl
       have:i'<listed.size:=by omega
       simp[this]at hkl
      ·rw[getD_set_ne true hki]at hkl;obtain⟨z,hz,hzk⟩:=hall k hk hkl;refine⟨z,?_,hzk⟩
       rcases Kl.1 hz with hz|hz
       ·exact Ke _ hz
       ·rcases Kd.1 hz with rfl|hz
        ·exact absurd hzk hki
        ·exact Kw _ hz
     ·intro z hz;rw[getD_set_ne true (fun hh=>hne z hz hh.symm)];exact hun z (hsub.subset hz)
     ·intro j hj k hk
      by_cases hji:i'=j
      ·subst hji;obtain⟨o2,k1,e,k2,k3,k4⟩:=J80 (i:=k) (j:=i') hk;rw[h2]at k1;simp only[K0]at k1;subst k1;have hle:=h3 e k2 k3
       rcases k4 with k4|k4
       ·rw[k4];exact getD_set_true hle
       ·exact getD_set_true (hcl _ hle _ k4)
      ·rw[getD_set_ne false hji]at hj;exact getD_set_true (hcl j hj k hk)
     ·intro a2 w2 hl2;obtain⟨S2,hv2,F2,q3,q4,q6⟩:=hl2;exact hK _ _ ⟨S2,hv2,F2,q3,q2.trans q4,fun i hi=>by rw[q6 i hi,q5 i hi]⟩
    unfold wpOp;simp only[h2];exact hturn
theorem J3t{w':World}(hI:Inv w S hv F g)(hw:w'.heap=w.heap)(hst:J3a w w'):Step' w S hv F g w' S hv F g:=by
 refine J9l hI (fun _=>False) (fun _ _=>rfl) (fun _ _=>rfl) (by rw[hw];exact Kz _) (fun b _ _=>by rw[hw]) (fun _ h=>h) (fun _ _=>rfl) (fun _ h=>h.elim) (fun _ _ h=>h.elim) (fun _ _ _ h=>h.elim) (fun _ _ h=>h.elim) (fun _ _ h=>h.elim) (fun _ _ h=>h.elim) (fun _ _ _ h=>h.elim) (fun b h=> .inl h) (fun b h=>by rw[hw];exact hI.sold b h) (fun _ _ h=>h.elim)
theorem Rel.same_heap{n:Nat}{s:St}{a:Act}{w':World}(hr:Rel n s a w S hv F)(hw:w'.heap=w.heap)(hst:J3a w w'):Rel n s a w' S hv F:=by
 have hs:=J3t hr.inv hw hst;exact⟨hs.inv,fun i=>J5w hs.ext _ _ (hr.sl i),hr.df,hr.sz⟩
theorem J9r(hf:Fit P H){h:FnH}{p:Fns H}(hp:∀key x y,p.call key x=some y→J2l P H key x y){id:Nat}{ops:Array Oper}{draw:Bool}{s s':St}{ts:List Tr}{a:Act}(hr:Rel h.f.ntmps s a w S hv F)(hs:(J2r H h p ops ops.toList s).run =some (s',ts))
  (hd:(!draw ||(J4s 0 ops.toList&&J48 ops 0 ops.toList ts))=true){W:List Nat}(hW:∀o∈ops.toList,∀k,o.dst=some k→k∈W){Q:Exit→Act→World→Prop}(hK:∀a' w',J1v h.f.ntmps W a w S hv F s.reg s' a' w'→Q .normal a' w'):(Code.region id ops draw).wp P Q a w:=by
 cases draw with
 |false=>exact wp_region_list (J5c hf hp _ hr hs hW hK)
 |true=>
  simp only[K5,K27,K7]at hd;obtain⟨h1,h2⟩:=Jev ops.toList 0 hs;refine wp_region_any hf.mixed ?_;have hw:({w with drawn:=w.drawn+1}:World).heap =w.heap:=rfl;have hst:=J3t hr.inv hw ⟨rfl,rfl,rfl⟩;refine Jaq (W:=W) hf hp hd.1 ops.size (zip3 0 ops.toList ts) _ (by rw[J75 _ _ _ h2];simp) (by simp) (hr.same_heap hw ⟨rfl,rfl,rfl⟩) h1 (J5y _ _ _ hd.2) ?_ ?_ ?_ ?_ ?_ ?_
  ·intro x hx;obtain⟨k,k1,k2⟩:=J5t _ _ _ _ hx;exact hW _ (List.mem_of_getElem? k2)
  ·intro x hx;obtain⟨k,k1,k2⟩:=J5t _ _ _ _ hx;rw[K1o]at k1;rw[k1];simpa using k2
  ·intro i hi _;obtain⟨x,hx,h3⟩:=Jck ops.toList ts 0 i h2 (by simpa using hi);exact⟨x,hx,by omega⟩
  ·intro x hx;obtain⟨k,k1,k2⟩:=J5t _ _ _ _ hx
   have hk:k<ops.size:=by
    have:=(Kb.1 k2).1;simpa using this
   rw[K1o]at k1;rw[K15,k1];simp[hk]
  ·intro j hj;exfalso;rw[K15]at hj
   rcases Nat.lt_or_ge j ops.size with h3|h3
   ·simp[h3]at hj
   ·rw[Array.getElem?_eq_none (by simpa using h3)]at hj;simp at hj
  ·intro a' w' hl;obtain⟨S',hv',F',q1,q2,q3⟩:=hl;exact hK _ _ ⟨S',hv',F',q1,hst.trans q2,q3⟩
end
end Go.Rf
namespace Go.Rf
section
variable {P:Program} {H:Hints} {w w':World} {S S' S0:Nat→Prop} {hv hv':Nat→Value} {F F':Nat→Nat→Prop} {g g' gl:Look}
theorem J2e:∀(l:List Nat) {S:Nat→Prop} {hv:Nat→Value} {F:Nat→Nat→Prop} {g:Look},Inv w S hv F g→∃S' hv' F',Step' w S hv F g w S' hv' F' (J4z g l)
 |[],S,hv,F,g,hI=>⟨S,hv,F,Step'.refl hI⟩
 |c::l,S,hv,F,g,hI=>by
  unfold J4z;split
  ·rename_i r hr;split
   ·rename_i r' k ks hs;obtain⟨S1,hv1,F1,h1⟩:=J42 hI (fun _ _ h=>h) hr hs (by simp);obtain⟨S2,hv2,F2,h2⟩:=J2e l h1.inv;exact⟨S2,hv2,F2,h1.trans h2⟩
   ·exact J2e l hI
  ·exact J2e l hI
theorem Rel.settle{n:Nat}{s:St}{a:Act}(hr:Rel n s a w S hv F)(l:List SV):J1v n [] a w S hv F s.reg (s.settle l) a w:=by
 obtain⟨S',hv',F',h⟩:=J2e (J78 s.reg 3 (l.flatMap SV.refs)) hr.inv;exact⟨S',hv',F',⟨h.inv,fun i=>J5w h.ext _ _ (hr.sl i),hr.df,hr.sz⟩,h,fun _ _=>rfl⟩
def J7a(hv:Nat→Value)(a:Act)(i:Nat):Value:=if 2000000≤i then hv (i-2000000)else if 1000000≤i then hv (i-1000000)else a.tmps.getD i undef
theorem Jhf{n:Nat}{s:St}{a:Act}(hr:Rel n s a w S hv F){i:Nat}{sh:SS}(hok:i<1000000∨sh.isOB=true)(hany:sh.isAny=false){acc:Acc}{r:List D×Acc}(he:(ext s.reg sh (s.at i) acc).run =some r):VR w S hv s.reg (s.at i) (J7a hv a i):=by
 by_cases h1:2000000≤i
 ·have hat:s.at i= .ptr (i-2000000) []:=by
   unfold St.at;have:Nat.ble 2000000 i=true:=Nat.ble_eq_true_of_le h1;rw[this];rfl
  have hv1:J7a hv a i=hv (i-2000000):=by simp[J7a,h1]
  rw[hat]at he⊢;rw[hv1];have hOB:sh.isOB=true:=hok.resolve_left (by omega);cases sh<;>simp[SS.isOB]at hOB
  ·simp[SS.isAny]at hany
  ·simp[ext,M.run]at he
  ·simp only[ext]at he;split at he
   ·rename_i r' heq hf';simp only[SV.ptr.injEq,and_true]at heq;subst heq;split at he
    ·rename_i b hg;have hgr:=hr.inv.rep _ _ hg;simp only[GRep]at hgr;obtain⟨bl,arr,T,k1,k2,k3,k4⟩:=hgr;rw[J8 rfl];simp only[CRep];refine⟨by rw[hg];simp,?_,by rw[k1];rfl,trivial⟩;rw[k1];simp[adr,J3]
    ·simp[M.run]at he
   ·simp[M.run]at he
  ·simp[ext,M.run]at he
 ·by_cases h2:1000000≤i
  ·have hat:s.at i= .ref (i-1000000):=by
    unfold St.at
    have e1:Nat.ble 2000000 i=false:=by rw[←Bool.not_eq_true,Nat.ble_eq];exact h1
    have e2:Nat.ble 1000000 i=true:=Nat.ble_eq_true_of_le h2;rw[e1,e2];rfl
   have hv1:J7a hv a i=hv (i-1000000):=by simp[J7a,h1,h2]
   rw[hat]at he⊢;rw[hv1];have hOB:sh.isOB=true:=hok.resolve_left (by omega);cases sh<;>simp[SS.isOB]at hOB
   ·simp[SS.isAny]at hany
   ·simp only[ext]at he;split at he
    ·rename_i u dp m xs hg;have hh:=J2w hr.inv hg;rw[J8 rfl];simp only[CRep];refine⟨by rw[hg];simp,?_,trivial⟩
     rcases hh with⟨_,_,h⟩|⟨_,_,b,o,cap,h,_⟩<;>rw[h]<;>rfl
    ·simp[M.run]at he
   ·simp[ext,M.run]at he
   ·simp only[ext]at he;split at he
    ·rename_i k' v' es hg;have hgr:=hr.inv.rep _ _ hg;simp only[GRep]at hgr;obtain⟨_,b,arr,clk,h,_⟩:=hgr;rw[J8 rfl];simp only[CRep];exact⟨by rw[hg];simp,by rw[h];rfl,trivial⟩
    ·simp[M.run]at he
  ·have hat:s.at i=s.slot i:=by
    unfold St.at
    have e1:Nat.ble 2000000 i=false:=by rw[←Bool.not_eq_true,Nat.ble_eq];exact h1
    have e2:Nat.ble 1000000 i=false:=by rw[←Bool.not_eq_true,Nat.ble_eq];exact h2
    rw[e1,e2];rfl
   have hv1:J7a hv a i=a.tmps.getD i undef:=by simp[J7a,h1,h2]
   rw[hat,hv1];exact hr.sl i
theorem J4x:∀(l:List (Nat×SS)) (ds:List D) (r:RebF),rebF l ds=some r→r.rs.map (·.1)=(l.flatMap fun y=>y.2.ids)∧r.slots.map (·.1)=l.map (·.1)∧∀e∈r.rs,e.2.isRB=true
 |[],ds,r,h=>by
  cases ds<;>simp[rebF]at h;subst h;exact⟨rfl,rfl,by simp⟩
 |(i,s)::l,ds,r,h=>by
  simp only[rebF]at h
  split at h<;>try (cases h;done)
  rename_i r1 h1
  split at h<;>try (cases h;done)
  rename_i r2 h2;simp only[K0]at h;subst h;obtain⟨k1,k2⟩:=J6p _ _ _ h1;obtain⟨k3,k4,k5⟩:=J4x l _ _ h2;refine⟨by simp[k1,k3],by simp[k4],fun e he=> ?_⟩
  rcases Kl.1 he with he|he
  ·exact k2 e he
  ·exact k5 e he
theorem J7r:∀(l:List (Nat×SS)) (ds:List D) (r:RebF),(l.any fun y=>shared y.2)=false→rebF l ds=some r→ds.map (·.1)=(l.flatMap fun y=>y.2.tys)→(∀e∈r.slots,Jh e.2=true)∧∀e∈r.rs,J3d e.2=true
 |[],ds,r,_,h,_=>by
  cases ds<;>simp[rebF]at h;subst h;exact⟨by simp,by simp⟩
 |(i,s)::l,ds,r,hs,h,ht=>by
  simp only[rebF]at h
  split at h<;>try (cases h;done)
  rename_i r1 h1
  split at h<;>try (cases h;done)
  rename_i r2 h2;simp only[K0]at h;subst h;simp only[List.any_cons,Bool.or_eq_false_iff]at hs;simp only[K18]at ht;obtain⟨sv1,rs1,rest1⟩:=r1;obtain⟨k1,k2,k3⟩:=J9p s ds _ _ _ _ hs.1 h1 ht;obtain⟨k4,k5⟩:=J7r l _ _ hs.2 h2 k3;refine⟨fun e he=> ?_,fun e he=> ?_⟩
  ·rcases Kd.1 he with rfl|he
   ·exact k1
   ·exact k4 e he
  ·rcases Kl.1 he with he|he
   ·exact k2 e he
   ·exact k5 e he
theorem J2f(old:Nat→SV)(i:Nat):∀(l:List (Nat×SV)),(∃e∈l,e.1=i∧J1w l old i=e.2)∨(i∉l.map (·.1)∧J1w l old i=old i)
 |[]=> .inr ⟨by simp,rfl⟩
 |(k,a)::l=>by
  simp only[J1w];cases hk:(i==k)
  ·have hne:i≠k:=by simpa using hk
   simp only[cond_false]
   rcases J2f old i l with⟨e,h1,h2,h3⟩|⟨h1,h2⟩
   ·exact .inl ⟨e,K9 _ h1,h2,h3⟩
   ·exact .inr ⟨by simp[hne];simpa using h1,h2⟩
  ·have:i=k:=by simpa using hk
   exact .inl ⟨(k,a),by simp,this.symm,rfl⟩
theorem Acc.to_hit{c:Acc}{k:Nat}{m:Nat×Nat×Bool}{d:Nat→Nat}(h:c.mp.find? (fun e=>e.1==k)=some m):c.to d k=m.2.1:=by simp[Acc.to,h]
theorem Acc.to_miss{c:Acc}{k:Nat}{d:Nat→Nat}(h:c.mp.find? (fun e=>e.1==k)=none):c.to d k=d k:=by simp[Acc.to,h]
theorem J95{n:Nat}{s:St}{a a':Act}(hr:Rel n s a w S hv F){ids:List Nat}{acc:Acc}{rs:List (Nat×Rg)}{al:Nat→Value}{fl:Nat→Nat→Prop}{R:(Nat→Prop)→(Nat→Value)→Look→Prop}
  (hd:Down w S hv F s.reg s.reg ids ⟨[],[]⟩ acc rs al fl R)(hok:acc.ok=true)
  (hc1:∀b,S b→S0 b)(hc2:∀b,S0 b→S b∨FL F acc.vw b∨∃e∈acc.mp,F e.2.1 b)(hc3:∀k b,fl k b→∃r f,(k,r,f)∈acc.mp∧F r b)(hc4:∀e∈acc.mp,e.1∈ids∧(e.2.2=true→al e.1=hv e.2.1))
  {F':Nat→Nat→Prop}{rb:RebF}(he:Ends w S0 al fl (J5 (fun _=>none) rs) w' S' hv' F' (J5 (fun _=>none) rb.rs))(hos:(rb.rs.map (·.1)).Nodup)(hrb:∀e∈rb.rs,e.2.isRB=true){fz:Bool}(hsh:fz=false→(∀e∈rb.slots,Jh e.2=true)∧∀e∈rb.rs,J3d e.2=true)
  (hsl:∀e∈rb.slots,e.1<1000000→VR w' S' hv' (J5 (fun _=>none) rb.rs) e.2 (a'.tmps.getD e.1 undef)){keep:List Nat}{W:List Nat}(hkeep:∀i,i∉W→a'.tmps.getD i undef=a.tmps.getD i undef)(hkW:∀i∈keep,i∉W)(hdf:a'.defers=[])(hsz:n≤a'.tmps.size)
  {s':St}(hb:J7g s keep acc fz rb=some s'):J1v n W a w S hv F s.reg s' a' w':=by
 unfold J7g at hb;simp only at hb;split at hb
 ·rename_i hchk;simp only[K0]at hb;have hchk:=K28.1 hchk;have hall:∀e∈rb.rs,_:=K11.1 hchk.2
  have hnd:(rb.rs.map fun e=>acc.to _root_.id e.1).Nodup :=by
   have:=Ji hchk.1;rw[List.map_map]at this;exact this
  have hren:∀e∈rb.rs,(∃m∈acc.mp,m.1=e.1∧acc.to _root_.id e.1=m.2.1∧m.2.2=true)∨s.reg (acc.to _root_.id e.1)=none:=by
   intro e hem;have hc:=hall e hem
   cases hfd:acc.mp.find? (fun m=>m.1==e.1)with
   |some m=>
    rw[hfd]at hc;have h1:=K23 hfd;have h2:=List.find?_some hfd;simp at h2;exact .inl ⟨m,h1,h2,Acc.to_hit hfd,hc⟩
   |none=>
    rw[hfd]at hc;refine .inr ?_;rw[Acc.to_miss hfd];simp only at hc;show s.reg e.1=none;split at hc
    ·assumption
    ·cases hc
  obtain⟨S'',hv'',F'',g'',u1,u2,u3⟩:=Jf3 hr.inv (fun _ _ h=>h) hd hok hc1 hc2 hc3 hc4 he hos hrb (acc.to _root_.id) fz (fun h=>(hsh h).2) hren hnd
  have hreg:s'.reg=g'':=by
   rw[←hb,u1];rfl
  refine⟨S'',hv'',F'',⟨by rw[hreg];exact u2.inv,fun i=> ?_,hdf,hsz⟩,by rw[hreg];exact u2,hkeep⟩;rw[hreg]
  have hs':s'.slot=J1w ((rb.slots.filter fun e=>Nat.blt e.1 1000000).map fun e=>(e.1,e.2.ren (acc.to _root_.id))) (fun i=>bif hasN keep i then s.slot i else .dead):=by
   rw[←hb]
  rw[hs']
  rcases J2f (fun i=>bif hasN keep i then s.slot i else .dead) i ((rb.slots.filter fun e=>Nat.blt e.1 1000000).map fun e=>(e.1,e.2.ren (acc.to _root_.id)))with⟨e,h1,h2,h3⟩|⟨h1,h2⟩
  ·rw[h3];obtain⟨e0,h4,rfl⟩:=Kx.1 h1;obtain⟨h5,h6⟩:=K1e.1 h4;simp only at h2;subst h2;exact Jgs (fun m cs hc=>u3 _ m cs (fun hh=>(hsh hh).1 _ h5) hc) (hsl e0 h5 (by simpa using h6))
  ·rw[h2];cases hk:hasN keep i
   ·trivial
   ·simp only[cond_true];rw[hkeep i (hkW i (J21.1 hk))];exact J5w u2.ext _ _ (hr.sl i)
 ·cases hb
end
end Go.Rf
namespace Go.Rf
def J56:Ex→Exit
 | .normal => .normal
 | .exit n=> .exit n
 | .ret => .ret
def Jdj(n:Nat)(es:List (Ex×List (Nat×SS)))(y:ExTy es)(W:List Nat)(a:Act)(w:World)(S:Nat→Prop)(hv:Nat→Value)(F:Nat→Nat→Prop)(g:Look)(e:Exit)(a':Act)(w':World):Prop:=
 ∃ex sh rb,(J65 es y).run =some (ex,sh,rb)∧e=J56 ex∧(rb.rs.map (·.1)).Nodup ∧∃S' hv' F',Ends w S hv F g w' S' hv' F' (J5 (fun _=>none) rb.rs)∧
  (∀e∈rb.slots,e.1<1000000→VR w' S' hv' (J5 (fun _=>none) rb.rs) e.2 (a'.tmps.getD e.1 undef))∧(∀i,i∉W→a'.tmps.getD i undef=a.tmps.getD i undef)∧a'.defers=[]∧n≤a'.tmps.size
def J37(P:Program)(H:Hints)(key n:Nat)(c:Code)(x:Den (tyOf (hTys (Jd H key n))))(y:ExTy (Jd H key n).exits):Prop:=
 ∀h,H.key key=some h→∃r,rebF (Jd H key n).head (J11 (hTys (Jd H key n)) x)=some r∧((Jd H key n).head.flatMap fun e=>e.2.ids).Nodup ∧
  ∀(a:Act) (w:World) (S:Nat→Prop) (hv:Nat→Value) (F:Nat→Nat→Prop),Inv w S hv F (J5 (fun _=>none) r.rs)→(∀e∈r.slots,VR w S hv (J5 (fun _=>none) r.rs) e.2 (a.tmps.getD e.1 undef))→a.defers=[]→h.f.ntmps≤a.tmps.size→
   (Code.loop c).wp P (Jdj h.f.ntmps (Jd H key n).exits y (Jp c) a w S hv F (J5 (fun _=>none) r.rs)) a w
theorem J7j:∀(es:List (Ex×List (Nat×SS))) (y:ExTy es) (ex:Ex) (sh:Bool) (rb:RebF),(J65 es y).run =some (ex,sh,rb)→∃e∈es,∃ds,rebF e.2 ds=some rb∧sh=e.2.any (fun y=>shared y.2)∧ds.map (·.1)=e.2.flatMap fun y=>y.2.tys
 |[],y,ex,sh,rb,h=>y.elim
 |[e],y,ex,sh,rb,h=>by
  simp only[J65]at h;split at h
  ·rename_i r hr;simp only[M.run,K0,K6]at h;obtain⟨rfl,rfl,rfl⟩:=h;exact⟨e,by simp,_,hr,rfl,J3g _ _⟩
  ·simp[M.run]at h
 |e::f::es,y,ex,sh,rb,h=>by
  cases y with
  |inl y=>
   simp only[J65,M.run]at h;split at h
   ·rename_i r hr;simp only[M.run,K0,K6]at h;obtain⟨rfl,rfl,rfl⟩:=h;exact⟨e,by simp,_,hr,rfl,J3g _ _⟩
   ·simp[M.run]at h
  |inr y=>
   simp only[J65,M.run]at h;obtain⟨e',h1,h2⟩:=J7j (f::es) y ex sh rb h;exact⟨e',K9 _ h1,h2⟩
section
variable {P:Program} {H:Hints} {w w':World} {S S' S0:Nat→Prop} {hv hv':Nat→Value} {F F':Nat→Nat→Prop} {g g' gl:Look}
theorem Jh6{n:Nat}{x y:Code}{a:Act}{w:World}{Q:Exit→Act→World→Prop}(h:x.wp P (fun e a' w'=>(e= .normal →y.wp P Q a' w')∧(e≠ .normal →Q e a' w')) a w):(Code.seq x y).wp P Q a w:=by
 refine wp_seq (Code.wp_mono ?_ h);intro e a' w' hq
 cases e with
 |normal=>exact hq.1 rfl
 |_=>exact hq.2 (by simp)
theorem Jbs{n:Nat}{c:Code}{a:Act}{w:World}{Q:Exit→Act→World→Prop}{x:Ex}{R:Act→World→Prop}(h:c.wp P (fun e a' w'=>e=J56 x∧R a' w') a w)(hQ:∀a' w',R a' w'→Q (J56 (match x with
  | .exit m=>if m=n then .normal else .exit m
  |x=>x)) a' w'):(Code.block n c).wp P Q a w:=by
 refine wp_block (Code.wp_mono ?_ h)
 rintro e a' w' ⟨rfl,hr⟩
 have:=hQ a' w' hr
 cases x with
 |normal=>exact this
 |ret=>exact this
 |exit m=>
  simp only[J56,Exit.inBlock]at this⊢
  by_cases hm:m=n
  ·simp only[hm,if_true]at this⊢;exact this
  ·simp only[hm,if_false]at this⊢;exact this
theorem Jbw{key:Nat}{h:FnH}{p:Fns H}{n:Nat}{c:Code}{s:St}(hc:∀c',c≠ .loop c'):ev H key h p (.block n c) s=(ev H key h p c s).bind fun z=>
  (match z.1 with
  | .exit m=> .ret (if m=n then .normal else .exit m,z.2)
  |x=> .ret (x,z.2)):=by
 cases c<;>first|rfl|exact absurd rfl (hc _)
theorem Jbx(hf:Fit P H){p:Fns H}(hp:∀key x y,p.call key x=some y→J2l P H key x y)(hlp:∀key n c x y,p.loop key n c x=some y→J37 P H key n c x y){key:Nat}{h:FnH}(hk:H.key key=some h):
  ∀(c:Code) {s:St} {a:Act} {w:World} {S:Nat→Prop} {hv:Nat→Value} {F:Nat→Nat→Prop} {x:Ex} {s':St},Rel h.f.ntmps s a w S hv F→(ev H key h p c s).run =some (x,s')→
   c.wp P (fun e a' w'=>e=J56 x∧J1v h.f.ntmps (Jp c) a w S hv F s.reg s' a' w') a w:=by
 intro c
 induction c with
 |skip=>
  intro s a w S hv F x s' hr he;simp only[ev,M.run,K0,K6]at he;obtain⟨rfl,rfl⟩:=he;exact wp_skip ⟨rfl,J1v.refl hr⟩
 |ret=>
  intro s a w S hv F x s' hr he;simp only[ev,M.run,K0,K6]at he;obtain⟨rfl,rfl⟩:=he;exact wp_ret ⟨rfl,J1v.refl hr⟩
 |exit n=>
  intro s a w S hv F x s' hr he;simp only[ev,M.run,K0,K6]at he;obtain⟨rfl,rfl⟩:=he;exact wp_exit ⟨rfl,J1v.refl hr⟩
 |region id ops draw=>
  intro s a w S hv F x s' hr he;simp only[ev]at he;rw[M.run_bind]at he;obtain⟨⟨s1,ts⟩,h1,he⟩:=Ki.1 he;split at he
  ·rename_i hd;simp only[M.run,K0,K6]at he;obtain⟨rfl,rfl⟩:=he
   refine J9r hf hp hr h1 hd (W:=Jp (.region id ops draw)) (fun o ho k hk=> ?_) fun a' w' hl=>⟨rfl,hl⟩
   simp only[Jp];exact List.mem_filterMap.2 ⟨o,ho,hk⟩
  ·simp[M.run]at he
 |seq c1 c2 ih1 ih2=>
  intro s a w S hv F x s' hr he;simp only[ev]at he;rw[M.run_bind]at he;obtain⟨⟨x1,s1⟩,h1,he⟩:=Ki.1 he;refine Jh6 (n:=0) (Code.wp_mono ?_ (ih1 hr h1))
  rintro e a1 w1 ⟨rfl,hl⟩
  cases x1 with
  |normal=>
   simp only at he;refine⟨fun _=> ?_,fun hne=>absurd rfl hne⟩;obtain⟨S1,hv1,F1,q1,q2,q3⟩:=hl;refine Code.wp_mono ?_ (ih2 q1 he)
   rintro e a2 w2 ⟨rfl,S2,hv2,F2,q4,q5,q6⟩
   refine⟨rfl,S2,hv2,F2,q4,q2.trans q5,fun i hi=> ?_⟩;simp only[Jp,Kl,not_or]at hi;rw[q6 i hi.2,q3 i hi.1]
  |ret=>
   simp only[M.run,K0,K6]at he;obtain⟨rfl,rfl⟩:=he;refine⟨fun h=>(by cases h),fun _=>⟨rfl,hl.mono fun i hi=> ?_⟩⟩;simp only[Jp];exact Ke _ hi
  |exit m=>
   simp only[M.run,K0,K6]at he;obtain⟨rfl,rfl⟩:=he;refine⟨fun h=>(by cases h),fun _=>⟨rfl,hl.mono fun i hi=> ?_⟩⟩;simp only[Jp];exact Ke _ hi
 |cond cc c1 c2 ih1 ih2=>
  intro s a w S hv F x s' hr he;simp only[ev]at he;split at he
  ·rename_i b hb;have hv0:=Jeo hr cc;rw[hb,J3b]at hv0;simp only[M.run]at he
   cases b with
   |true=>
    simp only[cond_true]at he;refine wp_cond_true hv0 (Code.wp_mono ?_ (ih1 hr he))
    rintro e a' w' ⟨rfl,hl⟩
    exact⟨rfl,hl.mono fun i hi=>Ke _ hi⟩
   |false=>
    simp only[cond_false]at he;refine wp_cond_false hv0 (Code.wp_mono ?_ (ih2 hr he))
    rintro e a' w' ⟨rfl,hl⟩
    exact⟨rfl,hl.mono fun i hi=>Kw _ hi⟩
  ·simp[M.run]at he
 |block n c ih=>
  intro s a w S hv F x s' hr he
  by_cases hloop:∃c',c= .loop c'
  ·obtain⟨c',rfl⟩:=hloop;simp only[ev]at he;rw[M.run_bind]at he;obtain⟨⟨ds,acc⟩,h1,he⟩:=Ki.1 he;split at he
   ·rename_i xin hchk hpk;have hchk:=K28.1 hchk;rw[M.run_bind]at he;obtain⟨⟨x1,s1⟩,hj,he⟩:=Ki.1 he;simp only[join,M.run]at hj;obtain⟨y,hy,hj⟩:=Ki.1 hj;rw[M.run_bind]at hj;obtain⟨⟨ex,sh,rb⟩,hej,hj⟩:=Ki.1 hj;simp only at hj;split at hj
    ·rename_i s1' hbh;simp only[M.run,K0,K6]at hj;obtain⟨rfl,rfl⟩:=hj;obtain⟨r,k1,k2,k3⟩:=hlp key n c' xin y hy h hk;obtain⟨S1,hv1,F1,q1,q2,q3⟩:=hr.settle ((Jd H key n).head.map fun y=>s.slot y.1);have hun:=J14 _ _ _ hpk;rw[hun]at k1;obtain⟨sl,rs,al,fl,m1,m2,m3⟩:=J4c (val:=fun i=>a.tmps.getD i undef) q1.inv (fun _ _ h=>h) _ _ _ _ h1 k2 (fun y _ _ _=>q1.sl y.1);rw[k1]at m1;simp only[K0]at m1;subst m1;obtain⟨S0,c1,c2,c3,c4,c5,c6⟩:=Jbu q1.inv m3 k2 hchk.1;have hloopwp:=k3 a w S0 al fl c1 c2 hr.df hr.sz;refine Jbs (x:=ex) (R:=fun a' w'=>J1v h.f.ntmps (Jp (.block n (.loop c'))) a w S hv F s.reg s1' a' w') (Code.wp_mono ?_ hloopwp) ?_
     ·rintro e a' w' ⟨ex2,sh2,rb2,e1,rfl,e2,S2,hv2,F2,e3,e4,e5,e6,e7⟩
      rw[hej]at e1;simp only[K0,K6]at e1;obtain⟨rfl,rfl,rfl⟩:=e1;refine⟨rfl,?_⟩;obtain⟨ee,u1,ds2,u2,u3,u4⟩:=J7j _ _ _ _ _ hej;obtain⟨u5,u6,u7⟩:=J4x _ _ _ u2
      obtain⟨S3,hv3,F3,t1,t2,t3⟩:=J95 q1 m3 hchk.1 c3 c4 c5 c6 e3 e2 u7 (fz:=sh) (fun hs=>J7r _ _ _ (by rw[←u3];exact hs) u2 u4) e4 (keep:=(Jd H key n).keep) (W:=Jp c') e5 (fun i hi=>by
       have:=K11.1 hchk.2 i hi
       exact J5q.1 this) e6 e7 hbh
      exact⟨S3,hv3,F3,t1,q2.trans t2,fun i hi=>t3 i hi⟩
     ·intro a' w' hl
      cases ex with
      |exit m=>
       simp only[M.run,K0,K6]at he;obtain⟨rfl,rfl⟩:=he;exact⟨rfl,hl⟩
      |normal=>
       simp only[M.run,K0,K6]at he;obtain⟨rfl,rfl⟩:=he;exact⟨rfl,hl⟩
      |ret=>
       simp only[M.run,K0,K6]at he;obtain⟨rfl,rfl⟩:=he;exact⟨rfl,hl⟩
    ·simp[M.run]at hj
   ·simp[M.run]at he
  ·rw[Jbw (fun c' hc=>hloop ⟨c',hc⟩),M.run_bind]at he;obtain⟨⟨x1,s1⟩,h1,he⟩:=Ki.1 he;refine Jbs (x:=x1) (R:=fun a' w'=>J1v h.f.ntmps (Jp (.block n c)) a w S hv F s.reg s1 a' w') (ih hr h1) ?_;intro a' w' hl
   cases x1 with
   |exit m=>
    simp only[M.run,K0,K6]at he;obtain⟨rfl,rfl⟩:=he;exact⟨rfl,hl⟩
   |normal=>
    simp only[M.run,K0,K6]at he;obtain⟨rfl,rfl⟩:=he;exact⟨rfl,hl⟩
   |ret=>
    simp only[M.run,K0,K6]at he;obtain⟨rfl,rfl⟩:=he;exact⟨rfl,hl⟩
 |_=>intros;rename_i he;simp[ev,M.run]at he
end
end Go.Rf
namespace Go.Rf
theorem Ja4{P:Program}{c:Code}{Q:Exit→Act→World→Prop}(I:Nat→Act→World→Prop)(round:∀k a w,I k a w→c.wp P (Exit.then (fun a' w'=>∃k',k'<k∧I k' a' w') Q) a w):∀(k:Nat) (a:Act) (w:World),I k a w→(Code.loop c).wp P Q a w:=by
 intro k a w h0 b ks cs
 have key:∀n a w,I n a w→∃e a' w',Q e a' w'∧Arrives P (lone (b.at a (.code c:: .inLoop c::ks)) cs w) b ks cs e a' w':=by
  intro n
  induction n using Nat.strongRecOn with
  |_ n ih=>
   intro a w hI;obtain⟨e,a₁,w₁,hq,harr⟩:=round n a w hI b (.inLoop c::ks) cs
   cases e with
   |normal=>
    obtain⟨k',hlt,hI₁⟩:=hq;obtain⟨e₂,a₂,w₂,hq₂,harr₂⟩:=ih k' hlt a₁ w₁ hI₁;exact⟨e₂,a₂,w₂,hq₂,.of_steps (Steps.trans harr (.one step_inLoop)) harr₂⟩
   |exit id=>exact⟨_,a₁,w₁,hq,.pass (x:= .inLoop c) rfl (fun _ _=> .inl (by simp)) harr⟩
   |goto l=>exact⟨_,a₁,w₁,hq,.pass (x:= .inLoop c) rfl (fun _ _=> .inl (by simp)) harr⟩
   |ret=>exact⟨_,a₁,w₁,hq,.pass (x:= .inLoop c) rfl (fun _ _=> .inl (by simp)) harr⟩
   |panic ch=>exact⟨_,a₁,w₁,hq,.pass (x:= .inLoop c) rfl (fun _ _=> .inl (by simp)) harr⟩
   |outgrown=>exact⟨_,a₁,w₁,hq,.pass (x:= .inLoop c) rfl (fun _ _=> .inl (by simp)) harr⟩
 obtain⟨e,a',w',hq,harr⟩:=key k a w h0;exact⟨e,a',w',hq,.of_steps (.one step_loop) harr⟩
section
variable {P:Program} {H:Hints} {w w':World} {S S' S0:Nat→Prop} {hv hv':Nat→Value} {F F':Nat→Nat→Prop} {g g' gl:Look}
structure Ends0 (J:Nat→Prop) (w:World) (S:Nat→Prop) (hv:Nat→Value) (F:Nat→Nat→Prop) (w':World) (S':Nat→Prop) (hv':Nat→Value) (F':Nat→Nat→Prop) (g':Look):Prop where
 inv:Inv w' S' hv' F' g'
 sub:∀b,S b→S' b
 hv:∀c,J c→hv' c=hv c
 bS:∀b,S' b→S b∨(∃c,F c b)∨w.heap.size≤b
 bF:∀c b,F' c b→(∃c',F c' b)∨w.heap.size≤b
 fr:∀b,b<w.heap.size→(∀c,¬F c b)→w'.heap[b]? =w.heap[b]?
 sz:w.heap.size≤w'.heap.size
 st:J3a w w'
theorem Ends0.trans{J:Nat→Prop}{w1 w2:World}{S1 S2:Nat→Prop}{hv1 hv2:Nat→Value}{F1 F2:Nat→Nat→Prop}{g1 g2:Look}(h:Ends0 J w S hv F w1 S1 hv1 F1 g1)(h':Ends0 J w1 S1 hv1 F1 w2 S2 hv2 F2 g2):Ends0 J w S hv F w2 S2 hv2 F2 g2 where
 inv:=h'.inv
 sub:=fun b hb=>h'.sub b (h.sub b hb)
 hv:=fun c hc=>by rw[h'.hv c hc,h.hv c hc]
 bS:=fun b hb=>by
  rcases h'.bS b hb with hb|⟨c,hb⟩|hb
  ·exact h.bS b hb
  ·rcases h.bF c b hb with hb|hb
   ·exact .inr (.inl hb)
   ·exact .inr (.inr hb)
  ·exact .inr (.inr (K14 h.sz hb))
 bF:=fun c b hb=>by
  rcases h'.bF c b hb with⟨c',hb⟩|hb
  ·exact h.bF c' b hb
  ·exact .inr (K14 h.sz hb)
 fr:=fun b hb hn=>by
  rw[h'.fr b (K16 hb h.sz) (fun c hc=> ?_),h.fr b hb hn]
  rcases h.bF c b hc with⟨c',hc'⟩|hge
  ·exact hn c' hc'
  ·omega
 sz:=K14 h.sz h'.sz
 st:=h.st.trans h'.st
theorem Ends0.refl{J:Nat→Prop}(hI:Inv w S hv F g):Ends0 J w S hv F w S hv F g:=⟨hI,fun _ h=>h,fun _ _=>rfl,fun _ h=> .inl h,fun c _ h=> .inl ⟨c,h⟩,fun _ _ _=>rfl,Kz _,⟨rfl,rfl,rfl⟩⟩
theorem Ends0.then{J:Nat→Prop}{w1 w2:World}{S1 S2:Nat→Prop}{hv1 hv2:Nat→Value}{F1 F2:Nat→Nat→Prop}{g1 g2:Look}(h:Ends0 J w S hv F w1 S1 hv1 F1 g1)(h':Ends w1 S1 hv1 F1 g1 w2 S2 hv2 F2 g2)(hJ:∀c,g c≠none→g2 c≠none→J c∧g1 c≠none):Ends w S hv F g w2 S2 hv2 F2 g2 where
 inv:=h'.inv
 sub:=fun b hb=>h'.sub b (h.sub b hb)
 hv:=fun c h1 h2=>by rw[h'.hv c (hJ c h1 h2).2 h2,h.hv c (hJ c h1 h2).1]
 bS:=fun b hb=>by
  rcases h'.bS b hb with hb|⟨c,hb⟩|hb
  ·exact h.bS b hb
  ·rcases h.bF c b hb with hb|hb
   ·exact .inr (.inl hb)
   ·exact .inr (.inr hb)
  ·exact .inr (.inr (K14 h.sz hb))
 bF:=fun c b hb=>by
  rcases h'.bF c b hb with⟨c',hb⟩|hb
  ·exact h.bF c' b hb
  ·exact .inr (K14 h.sz hb)
 fr:=fun b hb hn=>by
  rw[h'.fr b (K16 hb h.sz) (fun c hc=> ?_),h.fr b hb hn]
  rcases h.bF c b hc with⟨c',hc'⟩|hge
  ·exact hn c' hc'
  ·omega
 sz:=K14 h.sz h'.sz
 st:=h.st.trans h'.st
theorem Jfg{J:Nat→Prop}{w1:World}{S1:Nat→Prop}{hv1:Nat→Value}{F1:Nat→Nat→Prop}{g1 gl1:Look}(h:Step' w S hv F g w1 S1 hv1 F1 g1){outs:List Nat}{acc:Acc}{rs:List (Nat×Rg)}{al:Nat→Value}{fl:Nat→Nat→Prop}{R:(Nat→Prop)→(Nat→Value)→Look→Prop}
  (hd:Down w1 S1 hv1 F1 g1 gl1 outs ⟨[],[]⟩ acc rs al fl R)(hok:acc.ok=true)(hnd:outs.Nodup)(hJ:∀k,J k→g k≠none∧(k,k,true)∈acc.mp):
  ∃S2,Ends0 J w S hv F w1 S2 al fl (J5 (fun _=>none) rs)∧R S2 al (J5 (fun _=>none) rs):=by
 obtain⟨S2,k1,k2,k3,k4,k5,k6⟩:=Jbu h.inv hd hnd hok;refine⟨S2,⟨k1,fun b hb=>k3 b (h.ext.sub b hb),fun c hc=> ?_,fun b hb=> ?_,fun c b hb=> ?_,h.fr,h.sz,h.st⟩,k2⟩
 ·obtain⟨h1,h2⟩:=hJ c hc;have:=(k6 _ h2).2 rfl;simp only at this;rw[this,h.ext.hv c h1]
 ·rcases k4 b hb with hb|⟨k,_,hb⟩|⟨e,_,hb⟩
  ·exact h.bS b hb
  ·rcases h.bF _ b hb with hb|hb
   ·exact .inr (.inl hb)
   ·exact .inr (.inr hb)
  ·rcases h.bF _ b hb with hb|hb
   ·exact .inr (.inl hb)
   ·exact .inr (.inr hb)
 ·obtain⟨r,f,_,hb⟩:=k5 c b hb;exact h.bF _ b hb
theorem J59{ids:List Nat}{x:Ex}{s:St}:∀(es:List (Ex×List (Nat×SS))) (y:ExTy es),(J6g ids es x s).run =some y→∃e∈es,x=e.1∧∃ds acc,(extF s.reg s.at e.2 ⟨[],[]⟩).run =some (ds,acc)∧acc.ok=true∧J2z ids (e.2.flatMap fun y=>y.2.ids) acc=true∧atOk e.2=true∧
   ∀rb,rebF e.2 ds=some rb→(J65 es y).run =some (x,e.2.any (fun y=>shared y.2),rb)
 |[],y,h=>y.elim
 |[e],y,h=>by
  simp only[J6g]at h;split at h
  ·rename_i hx;have hx:=of_decide_eq_true hx;rw[M.run_bind]at h;obtain⟨⟨ds,acc⟩,h1,h⟩:=Ki.1 h;split at h
   ·rename_i z hc hpk;simp only[K7]at hc;have h:y=z:=(Option.some.inj h).symm;subst h;refine⟨e,by simp,hx,ds,acc,h1,hc.1.1,hc.1.2,hc.2,fun rb hrb=> ?_⟩;have hun:=J14 _ _ _ hpk;simp only[J65,hun,hrb,M.run,hx]
   ·simp[M.run]at h
  ·simp[M.run]at h
 |e::f::es,y,h=>by
  simp only[J6g]at h;split at h
  ·rename_i hx;have hx:=of_decide_eq_true hx;rw[M.run_bind]at h;obtain⟨⟨ds,acc⟩,h1,h⟩:=Ki.1 h;split at h
   ·rename_i z hc hpk;simp only[K7]at hc;have h:y=Sum.inl z:=(Option.some.inj h).symm;subst h;refine⟨e,by simp,hx,ds,acc,h1,hc.1.1,hc.1.2,hc.2,fun rb hrb=> ?_⟩;have hun:=J14 _ _ _ hpk;simp only[J65,M.run,hun,hrb,hx]
   ·simp[M.run]at h
  ·rw[M.run_bind]at h;obtain⟨z,h1,h⟩:=Ki.1 h;have h:y=Sum.inr z:=(Option.some.inj h).symm;subst h;obtain⟨e',k1,k2,ds,acc,k3,k4,k5,k6,k7⟩:=J59 (f::es) z h1;refine⟨e',K9 _ k1,k2,ds,acc,k3,k4,k5,k6,fun rb hrb=> ?_⟩;simp only[J65,M.run];exact k7 rb hrb
theorem J9m{n:Nat}{r:RebF}{a:Act}(hI:Inv w S hv F (J5 (fun _=>none) r.rs))(hsl:∀e∈r.slots,VR w S hv (J5 (fun _=>none) r.rs) e.2 (a.tmps.getD e.1 undef))(hdf:a.defers=[])(hsz:n≤a.tmps.size):Rel n (Jc9 r) a w S hv F:=by
 refine⟨hI,fun i=> ?_,hdf,hsz⟩;show VR w S hv (J5 (fun _=>none) r.rs) (J1w r.slots (fun _=> .dead) i) _
 rcases J2f (fun _=> .dead) i r.slots with⟨e,h1,h2,h3⟩|⟨_,h2⟩
 ·rw[h3];subst h2;exact hsl e h1
 ·rw[h2];trivial
def J6d(l:LoopH):List Nat:=l.head.flatMap fun e=>e.2.ids
def Jb0(l:LoopH)(k:Nat):Prop:=k∈J6d l∧∃e∈l.exits,∃y∈e.2,k∈y.2.ids
theorem Jak{l:LoopH}{c:Acc}(h:Jbq l c=true):∀k,Jb0 l k→(k,k,true)∈c.mp:=by
 rintro k ⟨hk,e,he,y,hy,hky⟩
 unfold Jbq at h;have h1:=K11.1 h k hk
 rcases Bool.or_eq_true_iff.1 h1 with h2|h2
 ·exfalso;rw[K1r,←Bool.not_eq_true]at h2;refine h2 (Ku.2 ⟨e,he,Ku.2 ⟨y,hy,J21.2 hky⟩⟩)
 ·obtain⟨⟨m1,m2,m3⟩,hm,he2⟩:=Ku.1 h2;simp only[K7,beq_iff_eq]at he2;obtain⟨rfl,rfl,rfl⟩:=he2;exact hm
theorem J5s{l:LoopH}{ds:List D}{r:RebF}(h:rebF l.head ds=some r):∀c,J5 (fun _=>none) r.rs c≠none↔c∈J6d l:=by
 intro c;obtain⟨k1,_,_⟩:=J4x _ _ _ h;unfold J6d;rw[←k1];constructor
 ·intro hc;obtain⟨q,hq⟩:=K13.1 hc
  rcases J1f hq with h|⟨_,h⟩
  ·exact Kx.2 ⟨_,h,rfl⟩
  ·cases h
 ·intro hc;obtain⟨q,_,hq⟩:=J7w (g:=fun _=>none) hc;rw[hq];simp
def Jhd(P:Program)(H:Hints)(nt key n:Nat)(c:Code)(y:ExTy (Jd H key n).exits)(a:Act)(w:World)(S:Nat→Prop)(hv:Nat→Value)(F:Nat→Nat→Prop)(K k:Nat)(a':Act)(w':World):Prop:=
 k≤K∧∃x r,(lev H k).loop key n c x=some y∧rebF (Jd H key n).head (J11 (hTys (Jd H key n)) x)=some r∧∃S' hv' F',Ends0 (Jb0 (Jd H key n)) w S hv F w' S' hv' F' (J5 (fun _=>none) r.rs)∧
  (∀e∈r.slots,VR w' S' hv' (J5 (fun _=>none) r.rs) e.2 (a'.tmps.getD e.1 undef))∧(∀i,i∉Jp c→a'.tmps.getD i undef=a.tmps.getD i undef)∧a'.defers=[]∧nt≤a'.tmps.size
def Good(P:Program)(H:Hints)(p:Fns H):Prop:=(∀key x y,p.call key x=some y→J2l P H key x y)∧(∀key n c x y,p.loop key n c x=some y→J37 P H key n c x y)
theorem Jcz(hf:Fit P H){K:Nat}(ih:∀j,j<K→Good P H (lev H j)){key n:Nat}{c:Code}{x:Den (tyOf (hTys (Jd H key n)))}{y:ExTy (Jd H key n).exits}(hx:(lev H K).loop key n c x=some y):J37 P H key n c x y:=by
 intro h hk
 have unf:∀k x,(lev H k).loop key n c x=some y→∃j,k=j+1∧J2p H key h (lev H j) n c x=some y:=by
  intro k x hx
  cases k with
  |zero=>simp[lev]at hx
  |succ j=>
   refine⟨j,rfl,?_⟩;simp only[lev,hk]at hx;exact hx
 have hreb:∀j x,J2p H key h (lev H j) n c x=some y→∃r,rebF (Jd H key n).head (J11 (hTys (Jd H key n)) x)=some r∧(J6d (Jd H key n)).Nodup :=by
  intro j x he;unfold J2p at he;split at he
  ·rename_i r hr hn;exact⟨r,hr,Ji hn⟩
  ·cases he
 obtain⟨j0,rfl,he0⟩:=unf K x hx;obtain⟨r,hr,hnd⟩:=hreb j0 x he0;refine⟨r,hr,hnd,fun a w S hv F hI hsl hdf hsz=> ?_⟩;refine Ja4 (Jhd P H h.f.ntmps key n c y a w S hv F (j0+1)) ?_ (j0+1) a w ⟨Kz _,x,r,hx,hr,S,hv,F,Ends0.refl hI,hsl,fun _ _=>rfl,hdf,hsz⟩
 rintro k a1 w1 ⟨hkK,x1,r1,hx1,hr1,S1,hv1,F1,hE,hsl1,hfr1,hdf1,hsz1⟩
 obtain⟨j,rfl,he⟩:=unf k x1 hx1;unfold J2p at he;simp only[hr1]at he;split at he
 ·rename_i r2 hr2 hnd2;simp only[K0]at hr2;subst hr2;unfold J8s at he;rw[M.run_bind]at he;obtain⟨⟨ex,s2⟩,hev,he⟩:=Ki.1 he;have hrel:=J9m (n:=h.f.ntmps) hE.inv hsl1 hdf1 hsz1;obtain⟨hp,hlp⟩:=ih j (by omega);have hwp:=Jbx hf hp hlp hk c hrel hev;refine Code.wp_mono ?_ hwp
  rintro e a2 w2 ⟨rfl,S2,hv2,F2,q1,q2,q3⟩
  have q2:Step' w1 S1 hv1 F1 (J5 (fun _=>none) r1.rs) w2 S2 hv2 F2 s2.reg:=q2
  have hexit:∀x',ex=x'→x'≠ .normal →(inject (J6d (Jd H key n)) (Jd H key n).exits x' s2).run =some y→Jdj h.f.ntmps (Jd H key n).exits y (Jp c) a w S hv F (J5 (fun _=>none) r.rs) (J56 x') a2 w2:=by
   intro x' hxx hne hinj;unfold inject at hinj
   obtain⟨S3,hv3,F3,t1,t2,t3⟩:=q1.settle ((Jd H key n).exits.flatMap fun e=>match decide (x'=e.1)with
    |true=>e.2.map fun y=>s2.at y.1
    |false=>[])
   obtain⟨e,u1,u2,ds,acc,u3,u4,u5,u6,u7⟩:=J59 _ _ hinj;obtain⟨v1,v2⟩:=J3f u5
   obtain⟨sl,rs,al,fl,m1,m2,m3⟩:=J4c (val:=J7a hv3 a2) t1.inv (fun _ _ h=>h) _ _ _ _ u3 v1 (fun yy hyy hany hsome=>by
    obtain⟨acc',r',hs⟩:=hsome;refine Jhf t1 ?_ hany hs;unfold atOk at u6;have:=K11.1 u6 yy hyy
    rcases Bool.or_eq_true_iff.1 this with h1|h1
    ·exact .inl (by simpa using h1)
    ·exact .inr h1)
   obtain⟨S4,hE4,hV4⟩:=Je3 (q2.trans t2) m3 u4 u5 (fun cc hcc=>(J5s hr1 cc).1 hcc);have hej:=u7 _ m1;refine⟨x',_,_,hej,rfl,?_,S4,al,fl,?_,?_,?_,q1.df,q1.sz⟩
   ·rw[m3.rsids];exact v1
   ·refine hE.then hE4 fun cc h1 h2=> ?_
    have hch:=(J5s hr cc).1 h1;refine⟨⟨hch,e,u1,?_⟩,(J5s hr1 cc).2 hch⟩;obtain⟨q,hq⟩:=K13.1 h2
    have hm:cc∈rs.map (·.1):=by
     rcases J1f hq with h|⟨_,h⟩
     ·exact Kx.2 ⟨_,h,rfl⟩
     ·cases h
    rw[m3.rsids]at hm;exact List.mem_flatMap.1 hm
   ·intro e' he' hlt;have:=hV4 e' he'
    have h2:J7a hv3 a2 e'.1=a2.tmps.getD e'.1 undef:=by
     unfold J7a;rw[if_neg (by omega),if_neg (by omega)]
    rw[h2]at this;exact this
   ·intro i hi;rw[q3 i hi,hfr1 i hi]
  cases ex with
  |normal=>
   simp only at he;rw[M.run_bind]at he;obtain⟨⟨ds,acc⟩,h1,he⟩:=Ki.1 he;split at he
   ·rename_i y' hchk hpk;simp only[K7]at hchk;simp only[M.run]at he;obtain⟨z,hz,he⟩:=Ki.1 he;simp only[K0]at he;subst he;obtain⟨S3,hv3,F3,t1,t2,t3⟩:=q1.settle ((Jd H key n).head.map fun y=>s2.slot y.1);obtain⟨sl,rs,al,fl,m1,m2,m3⟩:=J4c (val:=fun i=>a2.tmps.getD i undef) t1.inv (fun _ _ h=>h) _ _ _ _ h1 hnd (fun yy _ _ _=>t1.sl yy.1);obtain⟨S4,hE4,hV4⟩:=Jfg (J:=Jb0 (Jd H key n)) (q2.trans t2) m3 hchk.1 hnd (fun cc hcc=>⟨(J5s hr1 cc).2 hcc.1,Jak hchk.2 cc hcc⟩);refine⟨j,by omega,by omega,y',⟨sl,rs⟩,hz,?_,S4,al,fl,hE.trans hE4,hV4,fun i hi=>by rw[q3 i hi,hfr1 i hi],q1.df,q1.sz⟩;rw[J14 _ _ _ hpk];exact m1
   ·simp[M.run]at he
  |ret=>exact hexit .ret rfl (by simp) he
  |exit m=>exact hexit (.exit m) rfl (by simp) he
 ·cases he
end
end Go.Rf
namespace Go.Rf
section
variable {P:Program} {H:Hints} {w w':World} {S S' S0:Nat→Prop} {hv hv':Nat→Value} {F F':Nat→Nat→Prop} {g g' gl:Look}
theorem J8c:∀(sv:SV) (vs:List Value) (k:Nat),CRep w S hv g true sv vs→∀e∈J1d k sv,∃v,vs[e.1-k]? =some v∧k≤e.1∧V0 (CRep w S hv g false e.2) e.2 v:=by
 intro sv
 induction sv with
 |tup a b iha ihb=>
  intro vs k h e he;simp only[CRep]at h;obtain⟨p,r,rfl,h1,h2⟩:=h;simp only[J1d]at he
  rcases Kd.1 he with rfl|he
  ·exact⟨p,by simp,Kz _,h1⟩
  ·obtain⟨v,h3,h4,h5⟩:=ihb r (k+1) h2 e he;refine⟨v,?_,by omega,h5⟩
   have:e.1-k=(e.1-(k+1))+1:=by omega
   rw[this];simpa using h3
 |_=>intro vs k h e he;simp[J1d]at he
theorem J9q:∀(s:SS) (ds:List D) (r:Reb),s.isChain=false→reb s ds=some r→r.sv≠ .unit ∧∀x y,r.sv≠ .tup x y:=by
 intro s ds r hs h;cases s<;>simp[SS.isChain]at hs
 ·simp[reb]at h;subst h;simp
 ·cases ds<;>simp[reb]at h;subst h;simp
 ·simp[reb]at h;subst h;simp
 ·cases ds<;>simp[reb]at h;subst h;simp
 ·cases ds with
  |nil=>simp[reb]at h
  |cons d ds=>
   obtain⟨u,x⟩:=d;cases u<;>simp[reb]at h;subst h;simp
 ·simp only[reb]at h
  split at h<;>try (cases h;done)
  simp only[K0]at h;subst h;simp
 ·simp[reb]at h;subst h;simp
 ·simp[reb]at h;subst h;simp
 ·cases ds with
  |nil=>simp[reb]at h
  |cons d ds=>
   obtain⟨u,x⟩:=d
   cases u with
   |sl u'=>
    cases u'<;>simp[reb]at h;subst h;simp
   |_=>simp[reb]at h
 ·simp only[reb]at h
  split at h<;>try (cases h;done)
  rename_i r1 _;simp only[K0]at h;subst h;cases hr:r1.sv<;>simp[J6i,hr]
 ·simp only[reb]at h
  split at h<;>try (cases h;done)
  split at h<;>try (cases h;done)
  rename_i r1 _ _ r2 _;simp only[K0]at h;subst h;cases hr:r1.sv<;>cases hr2:r2.sv<;>simp[J2q,hr,hr2]
 ·simp only[reb]at h
  split at h<;>try (cases h;done)
  simp only[K0]at h;subst h;simp
 ·rename_i c t
  match ds with
  |[]=>simp[reb]at h
  |[d]=>obtain⟨u,x⟩:=d;simp[reb]at h
  |d::e::ds=>
   obtain⟨u,x⟩:=d;obtain⟨u',y⟩:=e
   cases u<;>try (simp[reb]at h;done)
   rename_i k1
   cases k1<;>try (simp[reb]at h;done)
   cases u'<;>try (simp[reb]at h;done)
   rename_i k2
   cases k2<;>try (simp[reb]at h;done)
   simp[reb]at h;subst h;simp
theorem J7l:∀(s:SS) (ds:List D) (r:Reb),J8l s=true→reb s ds=some r→(r.sv= .unit ∨∃x y,r.sv= .tup x y)∧∀n a b,Jn n r.sv= .tup a b→a≠ .unit ∧∀x y,a≠ .tup x y:=by
 intro s
 induction s with
 |unit=>
  intro ds r _ h;simp[reb]at h;subst h;refine⟨.inl rfl,fun n a b hn=> ?_⟩;cases n<;>simp[Jn]at hn
 |tup s s' ih ih'=>
  intro ds r hf h;simp only[J8l,K7,K1r]at hf;simp only[reb]at h
  split at h<;>try (cases h;done)
  rename_i r1 h1
  split at h<;>try (cases h;done)
  rename_i r2 h2;simp only[K0]at h;subst h;refine⟨.inr ⟨_,_,rfl⟩,fun n a b hn=> ?_⟩
  cases n with
  |zero=>
   simp only[Jn,SV.tup.injEq]at hn;obtain⟨rfl,rfl⟩:=hn;exact J9q s ds r1 hf.1 h1
  |succ n=>
   simp only[Jn]at hn;exact(ih' _ _ hf.2 h2).2 n a b hn
 |_=>intro ds r hf;simp[J8l]at hf
theorem Jav{s:SS}(h:J8l s=true):s.isChain=true:=by cases s<;>simp[J8l]at h<;>rfl
theorem J8b:∀(sv:SV) (k:Nat),∀e∈J1d k sv,∃n b,Jn n sv= .tup e.2 b:=by
 intro sv
 induction sv with
 |tup a b iha ihb=>
  intro k e he;simp only[J1d]at he
  rcases Kd.1 he with rfl|he
  ·exact⟨0,b,rfl⟩
  ·obtain⟨n,c,h⟩:=ihb (k+1) e he;exact⟨n+1,c,h⟩
 |_=>intro k e he;simp[J1d]at he
theorem Jhe{a:SV}{v:Value}(h1:a≠ .unit)(h2:∀x y,a≠ .tup x y)(h:V0 (CRep w S hv g false a) a v):VR w S hv g a v:=by
 cases a with
 |dead=>trivial
 |unit=>exact absurd rfl h1
 |tup x y=>exact absurd rfl (h2 x y)
 |_=>exact h
theorem Jgz:∀(s:SS) (t:SV),J19 (Jb.go s t)=J19 (Jb.go s .unit)+J19 t:=by
 intro s
 induction s with
 |own c t0 deep=>intro t;simp only[Jb.go,J19];omega
 |box c s ih=>intro t;simp only[Jb.go,J19];omega
 |one s ih=>intro t;exact ih t
 |clo f s ih=>intro t;exact ih t
 |pair s s' ih ih'=>
  intro t;simp only[Jb.go];rw[ih (Jb.go s' t),ih' t,ih (Jb.go s' .unit)];omega
 |tup s s' ih ih'=>
  intro t;simp only[Jb.go];rw[ih (Jb.go s' t),ih' t,ih (Jb.go s' .unit)];omega
 |_=>intro t;simp[Jb.go,J19]
theorem J7i:∀(bs:List Value) (sv:SV) (vs:List Value),CRep w S hv g true sv (bs++vs)→CRep w S hv g true (Jn bs.length sv) vs
 |[],sv,vs,h=>by simpa[Jn]using h
 |b::bs,sv,vs,h=>by
  cases sv<;>simp only[CRep]at h
  ·exact absurd h (by simp)
  ·obtain⟨p,r,h1,h2,h3⟩:=h;simp only[List.cons_append,K10]at h1;obtain⟨rfl,rfl⟩:=h1;exact J7i bs _ vs h3
theorem Jh4{sv:SV}{bs vs:List Value}(hc:CRep w S hv g true sv (bs++vs))(hfl:∀n a b,Jn n sv= .tup a b→a≠ .unit ∧∀x y,a≠ .tup x y){n:Nat}(hn:n=bs.length):VR w S hv g (Jb7 n sv) (if h:vs.toArray.size=1 then vs.toArray[0]else .tuple vs.toArray):=by
 subst hn;have h1:=J7i bs sv vs hc;have h2:=hfl bs.length;unfold Jb7
 cases hd:Jn bs.length sv with
 |unit=>
  rw[hd]at h1;simp only[CRep]at h1;subst h1;rfl
 |tup a b=>
  rw[hd]at h1 h2;obtain⟨h3,h4⟩:=h2 a b rfl;have h1':=h1;simp only[CRep]at h1;obtain⟨p,r,rfl,h5,h6⟩:=h1;cases b<;>simp only[CRep]at h6
  ·subst h6;simp only[List.size_toArray,Kq,K1m,K1o,dite_true,List.getElem_toArray,List.getElem_cons_zero]
   cases a with
   |dead=>trivial
   |unit=>exact absurd rfl h3
   |tup x y=>exact absurd rfl (h4 x y)
   |_=>exact h5
  ·obtain⟨p2,r2,rfl,_⟩:=h6;rw[dif_neg (by simp)];exact⟨_,rfl,h1'⟩
 |_=>rw[hd]at h1;simp only[CRep]at h1
theorem Jg7{a:SV}{v:Value}(h:VR w S hv g a v):V0 (CRep w S hv g false a) a v:=by
 cases a with
 |dead=>exact .inl rfl
 |unit=>exact .inl rfl
 |tup x y=>exact .inl rfl
 |_=>exact h
def Held(hv:Nat→Value)(g:Look)(e:Nat×Rg):Prop:=g e.1≠none∧(hv e.1).oneCell' =true∧(∀a,e.2= .box a→∃b,hv e.1= .pointer (some ⟨b,0,none⟩))
theorem Jco:∀(s:SS) (ds:List D) (r:Reb),reb s ds=some r→(∀e∈r.rs,Held hv g e)→∀(t:SV) (vs:List Value),CRep w S hv g true t vs→∃bs:List Value,CRep w S hv g true (Jb.go s t) (bs++vs)∧J19 (Jb.go s t)=bs.length+J19 t:=by
 intro s
 induction s with
 |own c t0 deep=>
  intro ds r h hh t vs ht
  cases ds with
  |nil=>simp[reb]at h
  |cons d ds=>
   obtain⟨u,x⟩:=d;cases u<;>simp[reb]at h;subst h;obtain⟨h1,h2,_⟩:=hh _ (Kn.2 rfl);refine⟨[hv c],?_,by simp[Jb.go,J19];omega⟩;simp only[Jb.go,CRep,K25];refine⟨hv c,vs,rfl,.inr (.inr ⟨rfl,?_⟩),ht⟩;simp only[CRep];exact⟨h1,h2,trivial⟩
 |box c s ih=>
  intro ds r h hh t vs ht;simp only[reb]at h
  split at h<;>try (cases h;done)
  simp only[K0]at h;subst h;obtain⟨h1,h2,h3⟩:=hh _ (Kk ..);obtain⟨b,hb⟩:=h3 _ rfl;refine⟨[hv c],?_,by simp[Jb.go,J19];omega⟩;simp only at hb h1;simp only[Jb.go,CRep,K25];refine⟨hv c,vs,rfl,.inr (.inr ⟨rfl,?_⟩),ht⟩;simp only[CRep];refine⟨h1,?_,by rw[hb];rfl,trivial⟩;rw[hb];simp[adr,J3]
 |one s ih=>
  intro ds r h hh t vs ht;simp only[reb]at h
  split at h<;>try (cases h;done)
  rename_i r1 h1;simp only[K0]at h;subst h;exact ih ds r1 h1 hh t vs ht
 |clo f s ih=>
  intro ds r h hh t vs ht;simp only[reb]at h
  split at h<;>try (cases h;done)
  rename_i r1 h1;simp only[K0]at h;subst h;exact ih ds r1 h1 hh t vs ht
 |pair s s' ih ih'=>
  intro ds r h hh t vs ht;simp only[reb]at h
  split at h<;>try (cases h;done)
  rename_i r1 h1
  split at h<;>try (cases h;done)
  rename_i r2 h2;simp only[K0]at h;subst h;obtain⟨bs2,k1,k2⟩:=ih' _ r2 h2 (fun e he=>hh e (Kw _ he)) t vs ht;obtain⟨bs1,k3,k4⟩:=ih _ r1 h1 (fun e he=>hh e (Ke _ he)) _ _ k1;exact⟨bs1++bs2,by simpa[Jb.go]using k3,by simp only[Jb.go,k4,k2,Kf];omega⟩
 |tup s s' ih ih'=>
  intro ds r h hh t vs ht;simp only[reb]at h
  split at h<;>try (cases h;done)
  rename_i r1 h1
  split at h<;>try (cases h;done)
  rename_i r2 h2;simp only[K0]at h;subst h;obtain⟨bs2,k1,k2⟩:=ih' _ r2 h2 (fun e he=>hh e (Kw _ he)) t vs ht;obtain⟨bs1,k3,k4⟩:=ih _ r1 h1 (fun e he=>hh e (Ke _ he)) _ _ k1;exact⟨bs1++bs2,by simpa[Jb.go]using k3,by simp only[Jb.go,k4,k2,Kf];omega⟩
 |_=>intro ds r h hh t vs ht;exact⟨[],by simpa[Jb.go]using ht,by simp[Jb.go]⟩
theorem Jf2:∀(s:SS) (t rs:SV),(t= .unit ∨∃x y,t= .tup x y)→J1u (Jb.go s t) rs=Jb.go s (J1u t rs)∧(Jb.go s t= .unit ∨∃x y,Jb.go s t= .tup x y):=by
 intro s
 induction s with
 |own c t0 deep=>intro t rs ht;exact⟨rfl,.inr ⟨_,_,rfl⟩⟩
 |box c s ih=>intro t rs ht;exact⟨rfl,.inr ⟨_,_,rfl⟩⟩
 |one s ih=>intro t rs ht;exact ih t rs ht
 |clo f s ih=>intro t rs ht;exact ih t rs ht
 |pair s s' ih ih'=>
  intro t rs ht;obtain⟨h1,h2⟩:=ih' t rs ht;obtain⟨h3,h4⟩:=ih (Jb.go s' t) rs h2;exact⟨by simp only[Jb.go,h3,h1],h4⟩
 |tup s s' ih ih'=>
  intro t rs ht;obtain⟨h1,h2⟩:=ih' t rs ht;obtain⟨h3,h4⟩:=ih (Jb.go s' t) rs h2;exact⟨by simp only[Jb.go,h3,h1],h4⟩
 |_=>intro t rs ht;exact⟨rfl,ht⟩
theorem J31(hf:Fit P H){n:Nat}{s:St}{a:Act}(hr:Rel n s a w S hv F):∀(l:List ResultVar) (rs:SV),J1i H s l=some rs→∃vs:List Value,(l.mapM (m:=Sem) fun
  | .tmp t=>pure (a.tmps.getD t undef)
  | .cell x T=>do loadVar T (←asAddr (a.tmps.getD x undef))).run P w= .ok vs w∧CRep w S hv s.reg true rs vs
 |[],rs,h=>by
  simp only[J1i,K0]at h;subst h;exact⟨[],by simp,by simp only[CRep]⟩
 | .tmp t::l,rs,h=>by
  simp only[J1i]at h;split at h
  ·rename_i r h1;simp only[K0]at h;subst h;obtain⟨vs,h2,h3⟩:=J31 hf hr l r h1;refine⟨a.tmps.getD t undef::vs,?_,?_⟩
   ·rw[List.mapM_cons];simp only[Sem.run_bind,Sem.run_pure,Result.andThen_ok,h2]
   ·simp only[CRep];exact⟨_,vs,rfl,Jg7 (hr.sl t),h3⟩
  ·cases h
 | .cell t T::l,rs,h=>by
  simp only[J1i]at h;split at h
  ·rename_i c q r hs h1;split at h
   ·rename_i b hb;split at h
    ·rename_i x hx;split at h
     ·rename_i hchk;simp only[K7,decide_eq_true_eq]at hchk;simp only[K0]at h;subst h;obtain⟨vs,h2,h3⟩:=J31 hf hr l r h1;have hv0:=hr.sl t;rw[hs,J8 rfl]at hv0;simp only[CRep,K10,and_true]at hv0;obtain⟨_,hv1,_,_⟩:=hv0;have hg:=hr.inv.rep _ _ hb;simp only[GRep]at hg;obtain⟨bl,arr,Tb,g1,g2,g3,g4⟩:=hg;obtain⟨c1,c2,c3,e1,e2,e3⟩:=J5j q b x _ hx g4;rw[g1]at hv1;have hv2:a.tmps.getD t undef= .pointer (some ⟨bl,0+J3 q,none⟩):=hv1
      have hrd:rd w bl 0 (c1++(c2++c3)):=by
       intro j u hj;rw[←e1]at hj;simp only[K1o,World.cell?,g2];simpa using hj
      have hrd2:=J9o hrd;rw[e2]at hrd2;obtain⟨xx,hxx⟩:∃xx,x.ag=some xx:=K13.1 hchk.2
      have hag:agOf H T=some xx:=by rw[←hchk.1,hxx]
      obtain⟨s1,s2,s3⟩:=J5x hxx;obtain⟨v,k1,k2⟩:=J6t (w:=w) hf (ag:=xx.1) (n:=xx.2) hag hrd2 (by rw[Ju _ _ e3,s2]) (fun h0=>Jft hxx h0);refine⟨v::vs,?_,?_⟩
      ·rw[List.mapM_cons]
       have haddr:∀A,asAddr (.pointer (some A))=(pure A:Sem Addr):=fun _=>rfl
       simp only[Sem.run_bind,hv2,haddr,Sem.run_pure,Result.andThen_ok,k1,h2]
      ·simp only[CRep];exact⟨v,vs,rfl,Jg7 (J28 hxx k2 e3),h3⟩
     ·cases h
    ·cases h
   ·cases h
  ·cases h
theorem Jgb(hI:Inv w S hv F g){r:Reb}(hrb:∀e∈r.rs,e.2.isRB=true)(hnd:(r.rs.map (·.1)).Nodup)(hg:g=J5 (fun _=>none) r.rs){w1:World}{S1:Nat→Prop}{hv1:Nat→Value}{F1:Nat→Nat→Prop}{g1:Look}(hs:Step' w S hv F g w1 S1 hv1 F1 g1):∀e∈r.rs,Held hv1 g1 e:=by
 intro e he
 have h0:g e.1=some e.2:=by rw[hg];exact J2s hnd he
 have h1:g e.1≠none:=by rw[h0];simp
 have hr:=hI.rep _ _ h0;have hh:=hs.ext.hv _ h1;refine⟨hs.ext.used _ h1,?_,fun a ha=> ?_⟩
 ·rw[hh];have hk:=hrb e he;obtain⟨c,rg⟩:=e;cases rg<;>simp[Rg.isRB]at hk
  ·simp only[GRep]at hr
   rcases J46 hr with⟨_,_,h⟩|⟨_,_,b,o,cap,h,_⟩<;>rw[h]<;>rfl
  ·simp only[GRep]at hr;obtain⟨b,arr,T,h,_⟩:=hr;rw[h];rfl
  ·simp only[GRep]at hr;obtain⟨_,b,arr,clk,h,_⟩:=hr;rw[h];rfl
 ·rw[hh];rw[ha]at hr;simp only[GRep]at hr;obtain⟨b,arr,T,h,_⟩:=hr;exact⟨b,h⟩
def Jdl(P:Program)(H:Hints):Prop:=∀key h f x y,H.key key=some h→h.nat=some f→J7o H h f key x=some y→J2l P H key x y
theorem Jea(hf:Fit P H)(hn:Jdl P H){p:Fns H}(hp:Good P H p){key:Nat}{x:Den (tyOf (aTys H key))}{y:Den (tyOf (rTys H key))}(he:J66 H p key x=some y):J2l P H key x y:=by
 intro h hk;unfold J66 at he;rw[hk]at he;simp only at he
 cases hnat:h.nat with
 |some f'=>rw[hnat]at he;exact hn key h f' x y hk hnat he h hk
 |none=>
 rw[hnat]at he;simp only at he;split at he
 ·rename_i c r hbody hreb hchk;have hchk:=K28.1 hchk;have hchk2:=K28.1 hchk.2;have hchk3:=K28.1 hchk2.2;rw[M.run_bind]at he;obtain⟨⟨ex,s2⟩,hev,he⟩:=Ki.1 he;obtain⟨hkf,hks,hkn⟩:=hf.fn key h hk;obtain⟨q1,q2⟩:=J6p _ _ _ hreb;have hndp:=Ji hchk.1
  have hfin:ex= .normal ∨ex= .ret :=by
   cases ex with
   |normal=>exact .inl rfl
   |ret=>exact .inr rfl
   |exit m=>simp[M.run]at he
  have he2:(match J1i H s2 h.f.results.toList with
     |some rs=>(ext (s2.settle [J1u (Jb h.pars) rs]).reg h.outs (J1u (Jb h.pars) rs) ⟨[],[]⟩).bind fun q=>
      (match q.2.ok&&J2z h.pars.ids h.outs.ids q.2,pack (rTys H key) q.1 with
      |true,some y=> .ret y
      |_,_=> .fail)
     |none=> .fail :M (Den (tyOf (rTys H key)))).run =some y:=by
   rcases hfin with rfl|rfl<;>exact he
  clear he;split at he2
  ·rename_i rs hrs;rw[M.run_bind]at he2;obtain⟨⟨ds,acc⟩,hext,he2⟩:=Ki.1 he2;split at he2
   ·rename_i y' hok hpk;have hok:=K28.1 hok;have hy:y=y':=(Option.some.inj he2).symm;subst hy;have hun:=J14 _ _ _ hpk
    have hch:h.outs.isChain=true:=by
     have:=hchk3.1;cases ho:h.outs<;>rw[ho]at this<;>simp[J8l]at this<;>rfl
    have hany:h.outs.isAny=false:=by cases ho:h.outs<;>rw[ho]at hch<;>first|rfl|simp[SS.isChain]at hch
    obtain⟨hno,hpl⟩:=J3f hok.2;refine⟨r,hreb,hndp,hno,Jav hchk2.1,fun w S hv F vs hI hc=> ?_⟩;refine calls_of_wp hkf hbody ?_
    have hrel:Rel h.f.ntmps ({slot:=J1w (J1d 0 r.sv) fun _=> .dead,reg:=J5 (fun _=>none) r.rs}:St) {tmps:=vs.toArray++Array.replicate (h.f.ntmps-vs.toArray.size) undef,defers:=[]} w S hv F:=by
     refine⟨hI,fun i=> ?_,rfl,by simp;omega⟩;show VR w S hv (J5 (fun _=>none) r.rs) (J1w (J1d 0 r.sv) (fun _=> .dead) i) _
     rcases J2f (fun _=> .dead) i (J1d 0 r.sv)with⟨e,h1,h2,h3⟩|⟨_,h2⟩
     ·rw[h3];subst h2;obtain⟨v,h4,_,h5⟩:=J8c _ _ 0 hc e h1;rw[Nat.sub_zero]at h4;have hlt:e.1<vs.length:=(Kb.1 h4).1
      have hv0:(vs.toArray++Array.replicate (h.f.ntmps-vs.toArray.size) undef).getD e.1 undef=v:=by
       rw[K15,Array.getElem?_append];simp[hlt];rw[Ka hlt]at h4;simpa using h4
      rw[hv0];obtain⟨n,b,h6⟩:=J8b _ 0 e h1;obtain⟨h7,h8⟩:=(J7l _ _ _ hchk2.1 hreb).2 n e.2 b h6;exact Jhe h7 h8 h5
     ·rw[h2];trivial
    have hwp:=Jbx hf hp.1 hp.2 hk c hrel hev;refine Code.wp_mono ?_ hwp
    rintro e a2 w2 ⟨rfl,S2,hv2,F2,t1,t2,_⟩
    have t2:Step' w S hv F (J5 (fun _=>none) r.rs) w2 S2 hv2 F2 s2.reg:=t2;obtain⟨S3,hv3,F3,u1,u2,_⟩:=t1.settle [J1u (Jb h.pars) rs];obtain⟨rvs,v1,v2⟩:=J31 hf t1 _ _ hrs;have v3:=J27 u2.ext _ _ _ v2;have hstep:=t2.trans u2;obtain⟨bs,b1,b2⟩:=Jco h.pars _ r hreb (Jgb hI q2 (by rw[q1];exact hndp) rfl hstep) rs rvs v3;have hgo:J1u (Jb h.pars) rs=Jb.go h.pars rs:=(Jf2 h.pars .unit rs (.inl rfl)).1
    have hlen:h.bk.length=bs.length:=by
     have h1:h.bk.length=J19 (Jb.go h.pars .unit):=eq_of_beq hchk3.2;have h2:=Jgz h.pars rs;omega
    have t:=J5n u1.inv (fun _ _ h=>h) h.outs _ ⟨[],[]⟩ acc ds (bs++rvs) hext hno hany (by rw[hch];rw[←hgo]at b1;exact b1);rw[hch]at t;obtain⟨sv,rs',al,fl,m1,_,m3⟩:=t;have m1':=m1 [];rw[K1l]at m1'
    have hids:∀c,J5 (fun _=>none) r.rs c≠none→c∈h.pars.ids:=by
     intro c hcc;obtain⟨q,hq⟩:=K13.1 hcc;rw[←q1]
     rcases J1f hq with h|⟨_,h⟩
     ·exact Kx.2 ⟨_,h,rfl⟩
     ·cases h
    obtain⟨S4,hE,hR⟩:=Je3 hstep m3 hok.1 hok.2 hids
    have hres:(results h.f a2.tmps).run P w2= .ok (if hh:rvs.toArray.size=1 then rvs.toArray[0]else .tuple rvs.toArray) w2:=by
     unfold results;simp only[Sem.run_bind];rw[Array.mapM_eq_mapM_toList];simp only[Sem.run_map,Sem.run_bind];refine(congrArg (fun z:Result (List Value)=>(z.andThen fun a w'=>Result.ok a.toArray w').andThen fun(a:Array Value) w'=>Sem.run P (pure (if h:a.size=1 then a[0]else Value.tuple a)) w') v1).trans ?_;rfl
    have hpost:a2.defers=[]∧∃v,(results h.f a2.tmps).run P w2= .ok v w2∧∃v' s,Ending.returned v= .returned v'∧reb h.outs (J11 (rTys H key) y)=some s∧∃S' hv' F',Ends w S hv F (J5 (fun _=>none) r.rs) w2 S' hv' F' (J5 (fun _=>none) s.rs)∧VR w2 S' hv' (J5 (fun _=>none) s.rs) (Jb7 h.bk.length s.sv) v':=
     ⟨t1.df,_,hres,_,⟨sv,rs',[]⟩,rfl,by rw[hun];exact m1',S4,al,fl,hE,Jh4 hR (J7l _ _ _ hchk3.1 m1').2 hlen⟩
    rcases hfin with rfl|rfl<;>exact hpost
   ·simp[M.run]at he2
  ·simp[M.run]at he2
 ·cases he
theorem Jej(hf:Fit P H)(hn:Jdl P H):∀k,Good P H (lev H k):=by
 intro k
 induction k using Nat.strongRecOn with
 |_ k ih=>
  refine⟨fun key x y hy=> ?_,fun key n c x y hy=>Jcz hf ih hy⟩
  cases k with
  |zero=>simp[lev]at hy
  |succ j=>exact Jea hf hn (ih j (by omega)) hy
end
end Go.Rf
namespace Go.Rf
open Go.Sort
def Jds(P:Program)(f:Nat):Prop:=∀(blk off cap:Nat) (zs:List Int) (w:World),Holds (Value.int .i64) w blk off zs.toArray→blk<w.heap.size→zs.length<4611686018427387904→
 Calls P f #[.slice (some ⟨blk,off,none⟩) zs.length cap] w fun e w'=>e= .returned (.tuple #[])∧∃n os,w'=grow (putRow (Value.int .i64) (Sort.ahead w n) blk off (zs.mergeSort fun x y=>decide (x≤y)).toArray) os
section
variable {P:Program} {H:Hints} {w:World} {S:Nat→Prop} {hv:Nat→Value} {F:Nat→Nat→Prop} {g:Look}
theorem J6m(arr:Array Value)(off:Nat)(zs:List Int)(k:Nat)(hk:k<zs.length)(hf:off+zs.length≤arr.size):(putCells (Value.int .i64) off zs.toArray arr)[off+k]? =some (.int .i64 (zs[k])):=by
 unfold putCells;rw[Array.getElem?_mapIdx,K1i (by omega)];simp[hk]
theorem Jez(hI:Inv w S hv F g){c:Nat}{dp:Bool}{xs:List Int}(hc:g c=some (.row (.int .i64) dp false xs))(hl:xs.length≤lim):
  ∃b o cap,hv c= .slice (some ⟨b,o,none⟩) xs.length cap∧Holds (Value.int .i64) w b o xs.toArray∧b<w.heap.size∧∀n os,∃S' hv' F',Step' w S hv F g (grow (putRow (Value.int .i64) (Sort.ahead w n) b o (xs.mergeSort fun x y=>decide (x≤y)).toArray) os) S' hv' F' (J5 g [(c,.row (.int .i64) true false (xs.mergeSort fun x y=>decide (x≤y)))]):=by
 have hr:=hI.rep c _ hc;simp only[GRep]at hr
 rcases hr with⟨h,_⟩|⟨_,b,o,cap,arr,T,G,h1,h2,h3,h4,h5,h6,h7,h8,h9⟩
 ·cases h
 have hsz:Rf.size (.int .i64)=1:=rfl;rw[hsz,Nat.mul_one]at h5;have hb:b<w.heap.size:=hI.old c b h6
 have hcell:∀(i:Nat) (hi:i<xs.length),w.cell? ⟨b,o+i,none⟩=some (.int .i64 xs[i])∧IntKind.i64.min≤xs[i]∧xs[i]≤IntKind.i64.max∧o+i<arr.size:=by
  intro i hi;obtain⟨cs,q1,q2,q3⟩:=h9 i xs[i] (Ka hi)
  have q4:cs=[.int .i64 xs[i]]∧IntKind.i64.min≤xs[i]∧xs[i]≤IntKind.i64.max:=by
   cases dp with
   |true=>exact q3
   |false=>exact q3
  obtain⟨rfl,q5,q6⟩:=q4;rw[hsz,Nat.mul_one]at q2;have q7:=q2 0 (.int .i64 xs[i]) rfl;exact⟨q7,q5,q6,K16 (Nat.add_lt_add_left (K16 hi h2) o) h5⟩
 have hperm:=List.mergeSort_perm xs (fun x y=>decide (x≤y));have hlen:(xs.mergeSort fun x y=>decide (x≤y)).length =xs.length:=hperm.length_eq;refine⟨b,o,cap,h1,fun j hj=> ?_,hb,fun n os=> ?_⟩
 ·have hj':j<xs.length:=by simpa using hj
  obtain⟨q1,_⟩:=hcell j hj';refine⟨by rw[q1];simp[hj'],by simp[World.frozen?,h4]⟩
 ·generalize hy:(xs.mergeSort fun x y=>decide (x≤y))=ys at hperm hlen⊢
  have hbk:(grow (putRow (Value.int .i64) (Sort.ahead w n) b o ys.toArray) os).heap[b]? =some (.cells (putCells (Value.int .i64) o ys.toArray arr) T (0,0)):=by
   rw[heap_grow_old _ _ (by simpa using hb)];simp[putRow,mapBlock,Sort.ahead,Array.getElem?_modify,h4,onCells]
  have hother:∀b',b'<w.heap.size→b'≠b→(grow (putRow (Value.int .i64) (Sort.ahead w n) b o ys.toArray) os).heap[b']? =w.heap[b']? :=by
   intro b' hb' hne;rw[heap_grow_old _ _ (by simpa using hb')]
   have:¬b=b':=fun e=>hne e.symm
   simp[putRow,mapBlock,Sort.ahead,Array.getElem?_modify,this]
  have hsize:w.heap.size≤(grow (putRow (Value.int .i64) (Sort.ahead w n) b o ys.toArray) os).heap.size :=by
   simp[grow,putRow,mapBlock,Sort.ahead]
  have hg':J5 g [(c,.row (.int .i64) true false ys)] c=some (.row (.int .i64) true false ys):=by rw[J7,if_pos rfl]
  refine⟨S,hv,F,J9l hI (fun c'=>c'=c) (fun c' hne=>by rw[J7,if_neg hne,J10]) (fun _ _=>rfl) hsize (fun b' hb' hn=>hother b' hb' (fun e=>hn c rfl (e▸h6))) (fun _ h=>h) (fun _ _=>rfl) (fun c' hc' _=>by rw[hc',hg'];exact fun h=>by cases h) ?_ ?_ ?_ (fun c' b' hc' hF=> .inl ⟨c',hc',hF⟩) (fun c' b' _ hF=>K16 (hI.old c' b' hF) hsize) (fun c1 c2 b' e1 e2 _ _=>by rw[e1,e2]) (fun b' h=> .inl h) (fun b' h=>K16 (hI.sold b' h) hsize) (fun c' b' _ hF=>hI.shr c' b' hF) ⟨rfl,rfl,rfl⟩⟩
  ·intro c' m hc' _ hm;rw[hc']at hm⊢;simp only[glen,hg',hc,Rg.len]at hm⊢;rw[←hlen];exact hm
  ·intro hx c' r hc' hr';rw[hc',hg']at hr';cases hr';rw[hc'];simp only[GRep];refine .inr ⟨rfl,b,o,cap,_,T,fun _ _=>False,by rw[h1,hlen],by rw[hlen];exact h2,by rw[hlen];exact h3,hbk,by rw[hsz,Nat.mul_one];simp only[putCells,Array.size_mapIdx];exact h5,h6,fun _ _ h=>h.elim,fun _ _ _ h=>h.elim,fun i e he=> ?_⟩;have hi:i<ys.length:=(Kb.1 he).1;have hin:e∈xs:=hperm.mem_iff.1 (List.mem_of_getElem? he);obtain⟨k,hk,hke⟩:=List.getElem_of_mem hin;obtain⟨_,q5,q6,_⟩:=hcell k hk;rw[hke]at q5 q6;refine⟨[.int .i64 e],rfl,?_,?_⟩
   ·rw[hsz,Nat.mul_one]
    refine(J1t hbk).2 fun j v hj=> ?_
    cases j with
    |zero=>
     have:v= .int .i64 e:=by simpa using hj.symm
     subst this
     have hee:ys[i]=e:=by rw[Ka hi]at he;exact Option.some.inj he
     rw[K2d,←hee];exact J6m arr o ys i hi (by rw[hlen];exact K14 (Nat.add_le_add_left h2 o) h5)
    |succ j=>simp at hj
   ·exact⟨rfl,q5,q6⟩
  ·intro c' b' hc' hF;rw[hc',hg'];exact⟨_,rfl,rfl⟩
end
def J9x(x:Bool×List Int):Option (Bool×List Int):=bif x.1 then none else bif decide (x.2.length≤lim)then some (false,x.2.mergeSort fun a b=>decide (a≤b))else none
def Jex(fid:Nat)(f:Func)(c:Nat):FnH:=⟨fid,f,.tup (.own c (.int .i64) false) .unit,.tup (.own c (.int .i64) true) .unit,[c],[],[],[],[],some J9x⟩
theorem J6j{H:Hints}{h:FnH}{f:Den (tyOf h.pars.tys)→Option (Den (tyOf h.outs.tys))}{key:Nat}{x:Den (tyOf (aTys H key))}{y:Den (tyOf (rTys H key))}(he:J7o H h f key x=some y):
  ∃a b,J11 (aTys H key) x=J11 h.pars.tys a∧f a=some b∧J11 (rTys H key) y=J11 h.outs.tys b:=by
 unfold J7o at he;split at he
 ·rename_i a ha;split at he
  ·rename_i b hb;exact⟨a,b,(J14 _ _ _ ha).symm,hb,J14 _ _ _ he⟩
  ·cases he
 ·cases he
theorem Jey{P:Program}{H:Hints}{key fid c:Nat}{f:Func}(hs:Jds P fid)(hk:H.key key=some (Jex fid f c)){x:Den (tyOf (aTys H key))}{y:Den (tyOf (rTys H key))}(he:J7o H (Jex fid f c) J9x key x=some y):J2l P H key x y:=by
 intro h hk';rw[hk]at hk';obtain rfl:=Option.some.inj hk';obtain⟨a,b,e1,e2,e3⟩:=J6j he;obtain⟨n,xs⟩:Bool×List Int:=a;obtain⟨m,ys⟩:Bool×List Int:=b;have e2':J9x (n,xs)=some (m,ys):=e2;unfold J9x at e2'
 cases n with
 |true=>cases e2'
 |false=>
 simp only[cond_false]at e2'
 cases hl:decide (xs.length≤lim)with
 |false=>rw[hl]at e2';cases e2'
 |true=>
 rw[hl]at e2';simp only[cond_true,K0,K6]at e2';obtain⟨rfl,rfl⟩:=e2';have hlen:xs.length≤lim:=of_decide_eq_true hl;refine⟨⟨.tup (.ref c) .unit,[(c,.row (.int .i64) false false xs)],[]⟩,by rw[e1];rfl,by simp[Jex,SS.ids],by simp[Jex,SS.ids],rfl,fun w S hv F vs hI hc=> ?_⟩;simp only[CRep]at hc;obtain⟨p,r,rfl,hp,rfl⟩:=hc
 have hp':p=hv c:=by
  rcases hp with hp|⟨hp,_⟩|⟨_,hp⟩
  ·cases hp
  ·cases hp
  ·have h3:=hp.2.2;simpa using h3
 subst hp';obtain⟨b,o,cap,h1,h2,h3,h4⟩:=Jez hI (c:=c) (dp:=false) (xs:=xs) (by rw[J7,if_pos rfl]) hlen;rw[h1]
 refine(hs b o cap xs w h2 h3 (Nat.lt_of_le_of_lt hlen (by decide))).mono fun e w' hq=> ?_
 obtain⟨rfl,n,os,rfl⟩:=hq;obtain⟨S',hv',F',hst⟩:=h4 n os;refine⟨_,⟨.tup (.ref c) .unit,[(c,.row (.int .i64) true false (xs.mergeSort fun a b=>decide (a≤b)))],[]⟩,rfl,by rw[e3];rfl,S',hv',F',?_,rfl⟩
 have hg:J5 (J5 (fun _=>none) [(c,.row (.int .i64) false false xs)]) [(c,.row (.int .i64) true false (xs.mergeSort fun x y=>decide (x≤y)))]=J5 (fun _=>none) [(c,.row (.int .i64) true false (xs.mergeSort fun x y=>decide (x≤y)))]:=by
  funext c'
  by_cases hcc:c'=c
  ·subst hcc;rw[J7,if_pos rfl,J7,if_pos rfl]
  ·rw[J7,if_neg hcc,J10,J7,if_neg hcc,J10,J7,if_neg hcc,J10]
 rw[hg]at hst;exact⟨hst.inv,hst.ext.sub,fun c' h1 _=>hst.ext.hv c' h1,hst.bS,fun c' b' hb=>hst.bF c' b' hb,hst.fr,hst.sz,hst.st⟩
def J5u(P:Program)(f:Nat):Prop:=∀(blk off cap:Nat) (zs:List Int) (w:World),Holds (Value.int .i64) w blk off zs.toArray→zs.length≤9223372036854775807→zs.length≤cap→
 Calls P f #[.slice (some ⟨blk,off,none⟩) zs.length cap] w fun e w'=>e= .returned (.slice (some ⟨blk,off,none⟩) (Lib.compact zs).length cap)∧∃q,w'=putRow (Value.int .i64) (Sort.ahead w q) blk off (Lib.compact zs++List.replicate (zs.length-(Lib.compact zs).length) 0).toArray
def J1z(x:Bool×List Int):Option (Bool×List Int):=bif x.1 then none else bif decide (x.2.length≤lim)then some (false,Lib.compact x.2)else none
def J4a(fid:Nat)(f:Func)(c c2:Nat):FnH:=⟨fid,f,.tup (.own c (.int .i64) false) .unit,.tup .any (.tup (.own c2 (.int .i64) true) .unit),[c],[],[],[],[],some J1z⟩
theorem J64{zs:List Int}:∀x∈Lib.compact zs,x∈zs:=by
 intro x hx;unfold Lib.compact Lib.compactUpTo at hx;obtain⟨i,hi,rfl⟩:=Kx.1 hx
 have hi':i<zs.length:=by simpa using(K1e.1 hi).1
 simp[hi']
theorem Jap(zs:List Int):(Lib.compact zs).length ≤zs.length:=by
 unfold Lib.compact Lib.compactUpTo;rw[Kh];exact K14 (K1q _ _) (by simp)
theorem J9a{P:Program}{w:World}{S:Nat→Prop}{hv:Nat→Value}{F:Nat→Nat→Prop}{c c2:Nat}(hne:c≠c2){xs:List Int}
  (hI:Inv w S hv F (J5 (fun _=>none) [(c,.row (.int .i64) false false xs)])):
  ∃b o cap,hv c= .slice (some ⟨b,o,none⟩) xs.length cap∧Holds (Value.int .i64) w b o xs.toArray∧xs.length≤cap∧∀q,∃S' hv' F',
   Ends w S hv F (J5 (fun _=>none) [(c,.row (.int .i64) false false xs)]) (putRow (Value.int .i64) (Sort.ahead w q) b o (Lib.compact xs++List.replicate (xs.length-(Lib.compact xs).length) 0).toArray) S' hv' F' (J5 (fun _=>none) [(c2,.row (.int .i64) true false (Lib.compact xs))])∧
   hv' c2= .slice (some ⟨b,o,none⟩) (Lib.compact xs).length cap:=by
 have hr:=hI.rep c _ (by rw[J7,if_pos rfl]);simp only[GRep]at hr
 rcases hr with⟨h,_⟩|⟨_,b,o,cap,arr,T,G,h1,h2,h3,h4,h5,h6,h7,h8,h9⟩
 ·cases h
 have hsz:Rf.size (.int .i64)=1:=rfl;rw[hsz,Nat.mul_one]at h5;have hb:b<w.heap.size:=hI.old c b h6
 have hcell:∀(i:Nat) (hi:i<xs.length),w.cell? ⟨b,o+i,none⟩=some (.int .i64 xs[i])∧IntKind.i64.min≤xs[i]∧xs[i]≤IntKind.i64.max:=by
  intro i hi;obtain⟨cs,q1,q2,q3⟩:=h9 i xs[i] (Ka hi);obtain⟨rfl,q5,q6⟩:=q3;rw[hsz,Nat.mul_one]at q2;exact⟨q2 0 (.int .i64 xs[i]) rfl,q5,q6⟩
 have hlen:=Jap xs;refine⟨b,o,cap,h1,fun j hj=> ?_,h2,fun q=> ?_⟩
 ·have hj':j<xs.length:=by simpa using hj
  obtain⟨q1,_⟩:=hcell j hj';refine⟨by rw[q1];simp[hj'],by simp[World.frozen?,h4]⟩
 ·generalize hy:Lib.compact xs=ys at hlen⊢;generalize hz:(ys++List.replicate (xs.length-ys.length) 0)=zs
  have hzl:zs.length=xs.length:=by rw[←hz];simp;omega
  have hbk:(putRow (Value.int .i64) (Sort.ahead w q) b o zs.toArray).heap[b]? =some (.cells (putCells (Value.int .i64) o zs.toArray arr) T (0,0)):=by
   simp[putRow,mapBlock,Sort.ahead,Array.getElem?_modify,h4,onCells]
  have hother:∀b',b'≠b→(putRow (Value.int .i64) (Sort.ahead w q) b o zs.toArray).heap[b']? =w.heap[b']? :=by
   intro b' hn
   have:¬b=b':=fun e=>hn e.symm
   simp[putRow,mapBlock,Sort.ahead,Array.getElem?_modify,this]
  have hsize:(putRow (Value.int .i64) (Sort.ahead w q) b o zs.toArray).heap.size =w.heap.size:=by simp[putRow,mapBlock,Sort.ahead]
  have hg2:∀k r,J5 (fun _=>none) [(c2,(Rg.row (.int .i64) true false ys:Rg))] k=some r→k=c2∧r= .row (.int .i64) true false ys:=by
   intro k r hk
   by_cases hc:k=c2
   ·rw[hc,J7,if_pos rfl]at hk;exact⟨hc,(Option.some.inj hk).symm⟩
   ·rw[J7,if_neg hc,J10]at hk;cases hk
  refine⟨S,fun k=>if k=c2 then .slice (some ⟨b,o,none⟩) ys.length cap else hv k,fun k b'=>k=c2∧F c b',⟨⟨?_,?_,?_,?_,?_,?_⟩,fun _ h=>h,?_,fun _ h=> .inl h,fun k b' h=> .inl ⟨c,h.2⟩,?_,Nat.le_of_eq hsize.symm,⟨rfl,rfl,rfl⟩⟩,by simp⟩
  ·intro k r hk;obtain⟨rfl,rfl⟩:=hg2 k r hk;simp only[GRep,if_true];refine .inr ⟨rfl,b,o,cap,_,T,fun _ _=>False,rfl,K14 hlen h2,K14 hlen h3,hbk,by rw[hsz,Nat.mul_one];simp only[putCells,Array.size_mapIdx];exact h5,⟨trivial,h6⟩,fun _ _ h=>h.elim,fun _ _ _ h=>h.elim,fun i e he=> ?_⟩;have hi:i<ys.length:=(Kb.1 he).1;have hin:e∈xs:=J64 e (by rw[hy];exact List.mem_of_getElem? he);obtain⟨j,hj,hje⟩:=List.getElem_of_mem hin;obtain⟨_,q5,q6⟩:=hcell j hj;rw[hje]at q5 q6;refine⟨[.int .i64 e],rfl,?_,⟨rfl,q5,q6⟩⟩;rw[hsz,Nat.mul_one]
   refine(J1t hbk).2 fun j' v hj'=> ?_
   cases j' with
   |zero=>
    have:v= .int .i64 e:=by simpa using hj'.symm
    subst this
    have hee:zs[i]'(by omega)=e:=by
     have h10:zs[i]? =some e:=by rw[←hz,Ko hi];exact he
     rw[Ka (by omega)]at h10;exact Option.some.inj h10
    rw[K2d,←hee];exact J6m arr o zs i (by omega) (by rw[hzl];exact K14 (Nat.add_le_add_left h2 o) h5)
   |succ j'=>simp at hj'
  ·rintro k b' ⟨rfl,_⟩
   exact⟨_,by rw[J7,if_pos rfl],rfl⟩
  ·rintro k k' b' ⟨rfl,_⟩ ⟨rfl,_⟩;rfl
  ·rintro k b' ⟨_,h⟩;exact hI.shr c b' h
  ·rintro k b' ⟨_,h⟩;rw[hsize];exact hI.old c b' h
  ·intro b' h;rw[hsize];exact hI.sold b' h
  ·intro k hk1 hk2;obtain⟨r,hr⟩:=K13.1 hk2;obtain⟨rfl,_⟩:=hg2 k r hr;refine absurd ?_ hk1;rw[J7,if_neg (fun e=>hne e.symm),J10]
  ·intro b' _ hn;exact hother b' (fun e=>hn c (e▸h6))
theorem J99{P:Program}{H:Hints}{key fid c c2:Nat}{f:Func}(hne:c≠c2)(hs:J5u P fid)(hk:H.key key=some (J4a fid f c c2)){x:Den (tyOf (aTys H key))}{y:Den (tyOf (rTys H key))}(he:J7o H (J4a fid f c c2) J1z key x=some y):J2l P H key x y:=by
 intro h hk';rw[hk]at hk';obtain rfl:=Option.some.inj hk';obtain⟨a,b,e1,e2,e3⟩:=J6j he;obtain⟨n,xs⟩:Bool×List Int:=a;obtain⟨m,ys⟩:Bool×List Int:=b;have e2':J1z (n,xs)=some (m,ys):=e2;unfold J1z at e2'
 cases n with
 |true=>cases e2'
 |false=>
 simp only[cond_false]at e2'
 cases hl:decide (xs.length≤lim)with
 |false=>rw[hl]at e2';cases e2'
 |true=>
 rw[hl]at e2';simp only[cond_true,K0,K6]at e2';obtain⟨rfl,rfl⟩:=e2';have hlen:xs.length≤lim:=of_decide_eq_true hl;refine⟨⟨.tup (.ref c) .unit,[(c,.row (.int .i64) false false xs)],[]⟩,by rw[e1];rfl,by simp[J4a,SS.ids],by simp[J4a,SS.ids],rfl,fun w S hv F vs hI hc=> ?_⟩;simp only[CRep]at hc;obtain⟨p,r,rfl,hp,rfl⟩:=hc
 have hp':p=hv c:=by
  rcases hp with hp|⟨hp,_⟩|⟨_,hp⟩
  ·cases hp
  ·cases hp
  ·have h3:=hp.2.2;simpa using h3
 subst hp';obtain⟨b,o,cap,h1,h2,h3,h4⟩:=J9a (P:=P) hne hI;rw[h1]
 refine(hs b o cap xs w h2 (K14 hlen (by decide)) h3).mono fun e w' hq=> ?_
 obtain⟨rfl,q,rfl⟩:=hq;obtain⟨S',hv',F',hE,hV⟩:=h4 q;refine⟨_,⟨.tup .dead (.tup (.ref c2) .unit),[(c2,.row (.int .i64) true false (Lib.compact xs))],[]⟩,rfl,by rw[e3];rfl,S',hv',F',hE,?_⟩;refine .inr (.inr ⟨rfl,?_⟩);show _∧_∧_;rw[hV];refine⟨?_,rfl,rfl⟩;rw[J7,if_pos rfl];simp
inductive NatGood (P:Program):FnH→Prop where
 |plain {h:FnH}:h.nat=none→NatGood P h
 |sort {fid:Nat} {f:Func} {c:Nat}:Jds P fid→NatGood P (Jex fid f c)
 |compact {fid:Nat} {f:Func} {c c2:Nat}:c≠c2→J5u P fid→NatGood P (J4a fid f c c2)
def Jdk(P:Program):List (Nat×FnH)→Prop
 |[]=>True
 |e::l=>NatGood P e.2∧Jdk P l
theorem J7e{P:Program}:∀{l:List (Nat×FnH)},Jdk P l→∀e∈l,NatGood P e.2
 |[],_,e,he=>by cases he
 |a::l,h,e,he=>by
  rcases Kd.1 he with rfl|he
  ·exact h.1
  ·exact J7e h.2 e he
end Go.Rf
namespace Go.Rf
variable {H:Hints}
inductive Pl (H:Hints):{α:Type}→(Fns H→M α)→Prop where
 |const {α:Type} (m:M α):Pl H (fun _=>m)
 |ite {α:Type} (b:Bool) {x y:Fns H→M α}:Pl H x→Pl H y→Pl H (fun p=> .ite b (x p) (y p))
 |call {α:Type} (key:Nat) (x:Den (tyOf (aTys H key))) {f:Fns H→Den (tyOf (rTys H key))→M α}:(∀y,Pl H (fun p=>f p y))→Pl H (fun p=> .ask _ (p.call key x) (f p))
 |loop {α:Type} (key n:Nat) (c:Code) (x:Den (tyOf (hTys (Jd H key n)))) {f:Fns H→ExTy (Jd H key n).exits →M α}:(∀y,Pl H (fun p=>f p y))→Pl H (fun p=> .ask _ (p.loop key n c x) (f p))
 |ask {α β:Type} (m:Option β) {f:Fns H→β→M α}:(∀y,Pl H (fun p=>f p y))→Pl H (fun p=> .ask _ m (f p))
 |cas {α β γ:Type} (s:β ⊕ γ) {f:Fns H→β→M α} {g:Fns H→γ→M α}:(∀y,Pl H (fun p=>f p y))→(∀y,Pl H (fun p=>g p y))→Pl H (fun p=> .cas _ _ s (f p) (g p))
theorem J3k{α β:Type}:∀(m:M α) {f:Fns H→α→M β},(∀a,Pl H (fun p=>f p a))→Pl H (fun p=>m.bind (f p)):=by
 intro m
 induction m with
 |ret a=>intro f hf;exact hf a
 |fail=>intro f hf;exact .const .fail
 |ite b x y hx hy=>intro f hf;exact .ite b (hx hf) (hy hf)
 |ask γ m k h=>intro f hf;exact .ask m fun y=>h y hf
 |cas γ δ s k l h h'=>intro f hf;exact .cas s (fun y=>h y hf) fun y=>h' y hf
theorem Pl.bind{α β:Type}{m:Fns H→M α}(hm:Pl H m):∀{f:Fns H→α→M β},(∀a,Pl H (fun p=>f p a))→Pl H (fun p=>(m p).bind (f p)):=by
 induction hm with
 |const m=>intro f hf;exact J3k m hf
 |ite b _ _ hx hy=>intro f hf;exact .ite b (hx hf) (hy hf)
 |call key x _ h=>intro f hf;exact .call key x fun y=>h y hf
 |loop key n c x _ h=>intro f hf;exact .loop key n c x fun y=>h y hf
 |ask m _ h=>intro f hf;exact .ask m fun y=>h y hf
 |cas s _ _ h h'=>intro f hf;exact .cas s (fun y=>h y hf) fun y=>h' y hf
theorem Jbt(g:Look)(d key f:Nat)(args:SV):Pl H (fun p=>Jcp H p g d key f args):=by
 unfold Jcp
 cases H.key key with
 |none=>exact .const _
 |some h=>
  simp only
  cases h.fid==f with
  |false=>exact .const _
  |true=>
   refine J3k _ fun r=> ?_
   cases r.2.ok with
   |false=>exact .const _
   |true=>
    cases pack (aTys H key) r.1 with
    |none=>exact .const _
    |some x=>exact .call key x fun y=> .const _
theorem Jcq{h:FnH}{o:Op}{T d:Nat}{g:Look}{args:List SV}(hnc:∀c,o≠ .call c)(p q:Fns H):eff1 H h p o T d g args=eff1 H h q o T d g args:=by
 cases o with
 |call c=>exact absurd rfl (hnc c)
 |makeMap T r=>
  cases r<;>rcases args with _|⟨a,_|⟨b,_|⟨c,_|⟨e,l⟩⟩⟩⟩<;>rfl
 |_=>
  rcases args with _|⟨a,_|⟨b,_|⟨c,_|⟨e,l⟩⟩⟩⟩<;>rfl
theorem Jga(h:FnH)(o:Op)(T d:Nat)(g:Look)(args:List SV):Pl H (fun p=>eff1 H h p o T d g args):=by
 by_cases hc:∃c,o= .call c
 ·obtain⟨c,rfl⟩:=hc;unfold eff1;simp only
  cases c.callee with
  |builtin b=>exact .const _
  |invoke r m=>exact .const _
  |value f=>
   simp only
   cases args with
   |nil=>exact .const _
   |cons a as=>
    cases a with
    |clo f' caps=>
     simp only
     cases H.extF f' with
     |some e=>exact .const _
     |none=>exact Jbt _ _ _ _ _
    |v t x=>
     cases t with
     |fn f' ct=>
      simp only
      cases Jam ct x with
      |some caps=>exact Jbt _ _ _ _ _
      |none=>exact .const _
     |_=>exact .const _
    |_=>exact .const _
 ·have:(fun p=>eff1 H h p o T d g args)=fun _=>eff1 H h ⟨fun _ _=>none,fun _ _ _ _=>none⟩ o T d g args:=funext fun p=>Jcq (fun c hcc=>hc ⟨c,hcc⟩) p _
  rw[this];exact .const _
theorem J9y(h:FnH)(o:Oper)(s:St):Pl H (fun p=>J2g H h p o s):=by
 unfold J2g
 exact(Jga _ _ _ _ _ _).bind fun e=> .const _
theorem Jfo(h:FnH)(ops:Array Oper)(o:Oper)(s:St):Pl H (fun p=>J41 H h p ops o s):=by
 unfold J41
 cases o.guard with
 |none=>exact J9y _ _ _
 |some jw=>
  obtain⟨j,want⟩:=jw;simp only
  cases Jar ops j with
  |none=>exact .const _
  |some q=>
   simp only
   have go:∀b:Bool,Pl H (fun p=>(match b==want with
     |true=>J2g H h p o (s.put (some q) (.v .bool b))
     |false=> .ret ((s.put (some q) (.v .bool b)).put o.dst .unit,⟨[],[]⟩):M (St×Tr))):=by
    intro b
    cases b==want with
    |true=>exact J9y _ _ _
    |false=>exact .const _
   cases hs:s.slot q with
   |v t b=>
    cases t with
    |bool=>exact .ite b (go true) (go false)
    |_=>exact .const _
   |_=>exact .const _
theorem J9s(h:FnH)(ops:Array Oper):∀(l:List Oper) (s:St),Pl H (fun p=>J2r H h p ops l s)
 |[],s=> .const _
 |o::l,s=>by
  unfold J2r
  exact(Jfo h ops o s).bind fun r=>(J9s h ops l r.1).bind fun q=> .const _
theorem Jgw(key:Nat)(h:FnH):∀(c:Code) (s:St),Pl H (fun p=>ev H key h p c s):=by
 intro c
 induction c with
 |region id ops draw=>
  intro s;simp only[ev]
  exact(J9s h ops ops.toList s).bind fun r=> .const _
 |seq a b iha ihb=>
  intro s;simp only[ev]
  refine(iha s).bind fun r=> ?_
  cases r.1 with
  |normal=>exact ihb r.2
  |_=>exact .const _
 |cond c a b iha ihb=>
  intro s;simp only[ev]
  cases opnd s c with
  |v t x=>
   cases t with
   |bool=>exact .ite x (iha s) (ihb s)
   |_=>exact .const _
  |_=>exact .const _
 |block n c ih=>
  intro s
  by_cases hloop:∃c',c= .loop c'
  ·obtain⟨c',rfl⟩:=hloop;simp only[ev]
   refine J3k _ fun r=> ?_
   cases r.2.ok&&J9c (Jd H key n).keep (Jp c')with
   |false=>exact .const _
   |true=>
    cases pack (hTys (Jd H key n)) r.1 with
    |none=>exact .const _
    |some x=>exact .loop key n c' x fun y=> .const _
  ·have:(fun p=>ev H key h p (.block n c) s)=fun p=>(ev H key h p c s).bind fun z=>
     (match z.1 with
     | .exit m=> .ret (if m=n then .normal else .exit m,z.2)
     |x=> .ret (x,z.2)):=funext fun p=>Jbw (fun c' hc=>hloop ⟨c',hc⟩)
   rw[this]
   exact(ih s).bind fun z=> .const _
 |_=>intro s;exact .const _
def Fns.le(p q:Fns H):Prop:=(∀key x y,p.call key x=some y→q.call key x=some y)∧∀key n c x y,p.loop key n c x=some y→q.loop key n c x=some y
theorem Pl.mono{α:Type}{m:Fns H→M α}(hm:Pl H m){p q:Fns H}(h:p.le q):∀{v:α},(m p).run =some v→(m q).run =some v:=by
 induction hm with
 |const m=>intro v hv;exact hv
 |ite b _ _ hx hy=>intro v hv;cases b<;>simp only[M.run,cond_true,cond_false]at hv⊢<;>first|exact hx hv|exact hy hv
 |call key x _ ih=>
  intro v hv;simp only[M.run]at hv⊢;obtain⟨y,h1,h2⟩:=Ki.1 hv;rw[h.1 _ _ _ h1];exact ih y h2
 |loop key n c x _ ih=>
  intro v hv;simp only[M.run]at hv⊢;obtain⟨y,h1,h2⟩:=Ki.1 hv;rw[h.2 _ _ _ _ _ h1];exact ih y h2
 |ask m _ ih=>
  intro v hv;simp only[M.run]at hv⊢;obtain⟨y,h1,h2⟩:=Ki.1 hv;rw[h1];exact ih y h2
 |cas s _ _ h1 h2=>
  intro v hv;simp only[M.run]at hv⊢
  cases s with
  |inl y=>exact h1 y hv
  |inr y=>exact h2 y hv
def Jfu(H:Hints)(key:Nat)(h:FnH)(c:Code)(r:Reb)(p:Fns H):M (Den (tyOf (rTys H key))):=(ev H key h p c {slot:=J1w (J1d 0 r.sv) fun _=> .dead,reg:=J5 (fun _=>none) r.rs}).bind fun z=>
    let fin:M (Den (tyOf (rTys H key))):=
     match J1i H z.2 h.f.results.toList with
     |some rs=>(ext (z.2.settle [J1u (Jb h.pars) rs]).reg h.outs (J1u (Jb h.pars) rs) ⟨[],[]⟩).bind fun q=>
      (match q.2.ok&&J2z h.pars.ids h.outs.ids q.2,pack (rTys H key) q.1 with
      |true,some y=> .ret y
      |_,_=> .fail)
     |none=> .fail
    match z.1 with
    | .normal =>fin
    | .ret =>fin
    |_=> .fail
theorem J97{key:Nat}{h:FnH}{c:Code}{r:Reb}:Pl H (Jfu H key h c r):=by
 unfold Jfu
 exact(Jgw key h _ _).bind fun z=> .const _
theorem J7k{p q:Fns H}(h:p.le q){key:Nat}{x:Den (tyOf (aTys H key))}{y:Den (tyOf (rTys H key))}(hv:J66 H p key x=some y):J66 H q key x=some y:=by
 unfold J66 at hv⊢
 cases hk:H.key key with
 |none=>rw[hk]at hv;exact hv
 |some f=>
  rw[hk]at hv;simp only at hv⊢
  cases hnat:f.nat with
  |some f'=>rw[hnat]at hv;exact hv
  |none=>
  rw[hnat]at hv;simp only at hv⊢;split at hv
  ·rename_i c r _ _ _;exact Pl.mono (J97 (key:=key) (h:=f) (c:=c) (r:=r)) h hv
  ·cases hv
theorem J7s{key:Nat}{f:FnH}{n:Nat}{c:Code}{r:RebF}:Pl H (fun p=>J8s H key f p n c r):=by
 unfold J8s
 refine(Jgw key f _ _).bind fun z=> ?_
 cases z.1 with
 |normal=>
  refine J3k _ fun q=> ?_
  cases q.2.ok&&Jbq (Jd H key n) q.2 with
  |false=>exact .const _
  |true=>
   cases pack (hTys (Jd H key n)) q.1 with
   |none=>exact .const _
   |some y=>exact .loop key n c y fun z=> .const _
 |_=>exact .const _
theorem J67{p q:Fns H}(h:p.le q){key:Nat}{f:FnH}{n:Nat}{c:Code}{x:Den (tyOf (hTys (Jd H key n)))}{y:ExTy (Jd H key n).exits}(hv:J2p H key f p n c x=some y):J2p H key f q n c x=some y:=by
 unfold J2p at hv⊢;split at hv
 ·rename_i r _ _;exact Pl.mono (J7s (key:=key) (f:=f) (n:=n) (c:=c) (r:=r)) h hv
 ·cases hv
theorem Jb3:∀k,(lev H k).le (lev H (k+1)):=by
 intro k
 induction k with
 |zero=>exact⟨fun key x y h=>by simp[lev]at h,fun key n c x y h=>by simp[lev]at h⟩
 |succ k ih=>
  refine⟨fun key x y h=>J7k ih h,fun key n c x y h=> ?_⟩;simp only[lev]at h⊢;split at h
  ·exact J67 ih h
  ·cases h
theorem Jc5{k m:Nat}(h:k≤m):(lev H k).le (lev H m):=by
 induction h with
 |refl=>exact⟨fun _ _ _ h=>h,fun _ _ _ _ _ h=>h⟩
 |step _ ih=>
  obtain⟨h1,h2⟩:=Jb3 (H:=H) _;exact⟨fun key x y h=>h1 _ _ _ (ih.1 _ _ _ h),fun key n c x y h=>h2 _ _ _ _ _ (ih.2 _ _ _ _ _ h)⟩
open Classical in
noncomputable def upto{α:Type}(u:Nat→Option α):Option α:=if h:∃v k,u k=some v then some h.choose else none
theorem Jci{α:Type}{u:Nat→Option α}(hm:∀k v,u k=some v→∀m,k≤m→u m=some v){v:α}:upto u=some v↔∃k,u k=some v:=by
 unfold upto;constructor
 ·intro h;split at h
  ·rename_i hx;simp only[K0]at h;obtain⟨k,hk⟩:=hx.choose_spec;exact⟨k,by rw[hk,h]⟩
  ·cases h
 ·rintro⟨k,hk⟩
  have hx:∃v k,u k=some v:=⟨v,k,hk⟩;rw[dif_pos hx];obtain⟨k',hk'⟩:=hx.choose_spec;have h1:=hm k v hk (max k k') (Nat.le_max_left _ _);have h2:=hm k' _ hk' (max k k') (Nat.le_max_right _ _);rw[h1]at h2;exact h2.symm
noncomputable def inf(H:Hints):Fns H:=⟨fun key x=>upto fun k=>(lev H k).call key x,fun key n c x=>upto fun k=>(lev H k).loop key n c x⟩
theorem J4d{key:Nat}{x:Den (tyOf (aTys H key))}{y:Den (tyOf (rTys H key))}:(inf H).call key x=some y↔∃k,(lev H k).call key x=some y:=
 Jci fun k v h m hm=>(Jc5 hm).1 _ _ _ h
theorem J5p{key n:Nat}{c:Code}{x:Den (tyOf (hTys (Jd H key n)))}{y:ExTy (Jd H key n).exits}:(inf H).loop key n c x=some y↔∃k,(lev H k).loop key n c x=some y:=
 Jci fun k v h m hm=>(Jc5 hm).2 _ _ _ _ _ h
theorem Jei(k:Nat):(lev H k).le (inf H):=⟨fun _ _ _ h=>J4d.2 ⟨k,h⟩,fun _ _ _ _ _ h=>J5p.2 ⟨k,h⟩⟩
theorem Pl.cont{α:Type}{m:Fns H→M α}(hm:Pl H m):∀{v:α},(m (inf H)).run =some v→∃n,∀k,n≤k→(m (lev H k)).run =some v:=by
 induction hm with
 |const m=>intro v hv;exact⟨0,fun _ _=>hv⟩
 |ite b _ _ hx hy=>intro v hv;cases b<;>simp only[M.run,cond_true,cond_false]at hv⊢<;>first|exact hx hv|exact hy hv
 |call key x _ ih=>
  intro v hv;simp only[M.run]at hv⊢;obtain⟨y,h1,h2⟩:=Ki.1 hv;obtain⟨k1,h3⟩:=J4d.1 h1;obtain⟨k2,h4⟩:=ih y h2;refine⟨max k1 k2,fun k hk=> ?_⟩;rw[(Jc5 (K14 (Nat.le_max_left _ _) hk)).1 _ _ _ h3];exact h4 k (K14 (Nat.le_max_right _ _) hk)
 |loop key n c x _ ih=>
  intro v hv;simp only[M.run]at hv⊢;obtain⟨y,h1,h2⟩:=Ki.1 hv;obtain⟨k1,h3⟩:=J5p.1 h1;obtain⟨k2,h4⟩:=ih y h2;refine⟨max k1 k2,fun k hk=> ?_⟩;rw[(Jc5 (K14 (Nat.le_max_left _ _) hk)).2 _ _ _ _ _ h3];exact h4 k (K14 (Nat.le_max_right _ _) hk)
 |ask m _ ih=>
  intro v hv;simp only[M.run]at hv⊢;obtain⟨y,h1,h2⟩:=Ki.1 hv;obtain⟨k2,h4⟩:=ih y h2;exact⟨k2,fun k hk=>by rw[h1];exact h4 k hk⟩
 |cas s _ _ h1 h2=>
  intro v hv;simp only[M.run]at hv⊢
  cases s with
  |inl y=>exact h1 y hv
  |inr y=>exact h2 y hv
theorem Jcs{key:Nat}{x:Den (tyOf (aTys H key))}{y:Den (tyOf (rTys H key))}(hv:J66 H (inf H) key x=some y):∃k,J66 H (lev H k) key x=some y:=by
 unfold J66 at hv⊢
 cases hk:H.key key with
 |none=>rw[hk]at hv;cases hv
 |some f=>
  rw[hk]at hv;simp only at hv⊢
  cases hnat:f.nat with
  |some f'=>rw[hnat]at hv;exact⟨0,hv⟩
  |none=>
  rw[hnat]at hv;simp only at hv⊢;split at hv
  ·rename_i c r hb hr hc;obtain⟨n,hn⟩:=Pl.cont (J97 (key:=key) (h:=f) (c:=c) (r:=r)) hv;exact⟨n,hn n (Kz _)⟩
  ·cases hv
theorem Jat{key:Nat}{f:FnH}{n:Nat}{c:Code}{x:Den (tyOf (hTys (Jd H key n)))}{y:ExTy (Jd H key n).exits}(hv:J2p H key f (inf H) n c x=some y):∃k,J2p H key f (lev H k) n c x=some y:=by
 unfold J2p at hv⊢;split at hv
 ·rename_i r _ _;obtain⟨n',hn⟩:=Pl.cont (J7s (key:=key) (f:=f) (n:=n) (c:=c) (r:=r)) hv;exact⟨n',hn n' (Kz _)⟩
 ·cases hv
theorem J6e(key:Nat)(x:Den (tyOf (aTys H key))):(inf H).call key x=J66 H (inf H) key x:=by
 apply Option.ext;intro y;constructor
 ·intro h;obtain⟨k,hk⟩:=J4d.1 h
  cases k with
  |zero=>simp[lev]at hk
  |succ k=>exact J7k (Jei k) hk
 ·intro h;obtain⟨k,hk⟩:=Jcs h;exact J4d.2 ⟨k+1,hk⟩
theorem J6f(key n:Nat)(c:Code)(x:Den (tyOf (hTys (Jd H key n)))){f:FnH}(hf:H.key key=some f):(inf H).loop key n c x=J2p H key f (inf H) n c x:=by
 apply Option.ext;intro y;constructor
 ·intro h;obtain⟨k,hk⟩:=J5p.1 h
  cases k with
  |zero=>simp[lev]at hk
  |succ k=>
   simp only[lev,hf]at hk;exact J67 (Jei k) hk
 ·intro h;obtain⟨k,hk⟩:=Jat h;refine J5p.2 ⟨k+1,?_⟩;simp only[lev,hf];exact hk
end Go.Rf
