/- The plain law of FnExactEver:what the two functions compute is the same. -/
import Derived.Test.YtedfhboklcfanaaGreatUFnExactEverB
import Derived.Laws.MathBits
set_option linter.all false
namespace Go.Proofs.YtedfhboklcfanaaGreat.R
open Go.Rf
open Go.IntKind (i64 u64)
open Int (toNat)
theorem FinI.leave{g:Int→List Int}{G S:Int→Prop}{o:List Int}{k:Int}(h:FinI g (fun x=>G x∨x=k) S o)(hg:¬G k)(hs:∀y∈g k,S y)(hw:∀x,G x→Way g x k):FinI g G S (o++[k]):=by
 have hko:k∉o:=fun c=>h.dis k c (Or.inr rfl)
 refine⟨fun x=> ?_,fun x hx hc=> ?_,fun x hx y hy=> ?_,fun A z B e=> ?_,?_⟩
 ·rw[h.see,Kl,Kn];constructor
  ·rintro(a|a|a)
   ·exact Or.inl (Or.inl a)
   ·exact Or.inr a
   ·exact Or.inl (Or.inr a)
  ·rintro((a|a)|a)
   ·exact Or.inl a
   ·exact Or.inr (Or.inr a)
   ·exact Or.inr (Or.inl a)
 ·rw[Kl,Kn]at hx
  rcases hx with hx|hx
  ·exact h.dis x hx (Or.inl hc)
  ·subst hx;exact hg hc
 ·rw[Kl,Kn]at hx
  rcases hx with hx|hx
  ·exact h.suc x hx y hy
  ·subst hx;exact hs y hy
 ·rcases List.eq_nil_or_concat B with hB|⟨B2,b,hB⟩
  ·subst hB;obtain⟨e1,e2⟩:=List.append_inj' e rfl;simp only[K10,and_true]at e2;subst e1 e2
   by_cases c:∃y,G y∧Way g k y
   ·obtain⟨y,hy,hy2⟩:=c;refine Or.inr ⟨y,⟨hy2,hw y hy⟩,fun q=>h.dis y q (Or.inl hy),fun q=> ?_⟩;subst q;exact hg hy
   ·refine Or.inl fun w hkw=> ?_
    have key:Way g k w∧(w∈o∨w=k):=Way.closed (P:=fun x=>Way g k x∧(x∈o∨x=k)) (fun x hx y hy=>by
     have hky:=hx.1.snoc hy
     have hsy:S y:=by
      rcases hx.2 with q|q
      ·exact h.suc x q y hy
      ·subst q;exact hs y hy
     refine⟨hky,?_⟩
     rcases(h.see y).1 hsy with q|q|q
     ·exact Or.inl q
     ·exact absurd ⟨y,q,hky⟩ c
     ·exact Or.inr q) hkw ⟨Way.here k,Or.inr rfl⟩
    exact key.2
  ·subst hB;rw[List.concat_eq_append]at e
   have e':o++[k]=(A++z::B2)++[b]:=by rw[e];simp
   obtain⟨e1,_⟩:=List.append_inj' e' rfl;exact h.star A z B2 e1
 ·rw[K19];refine⟨h.nod,List.pairwise_singleton _ _,fun a ha b hb=> ?_⟩;rw[Kn]at hb
  rintro rfl
  subst hb;exact hko ha
theorem Qkj{g:Int→List Int}{S ok:Int→Prop}{o:List Int}(h:FinI g (fun _=>False) S o)(all:∀x,ok x→x∈o)(okc:∀x,ok x→∀y∈g x,ok y){A B:List Int}{z y:Int}(ho:o=A++z::B)(hy:ok y)(hyz:Way g y z)(hB:∀b∈B,¬Scc g y b):Way g z y:=by
 obtain⟨A2,u,B2,e,hu,hl⟩:=Qkx (fun x=>Scc g y x) o ⟨y,all y hy,Scc.refl g y⟩;have oku:ok u:=Way.closed okc hu.1 hy
 rcases h.star A2 u B2 e with c|⟨y2,c1,c2,c3⟩
 ·rcases c z (hu.2.trans hyz)with cz|cz
  ·have huo:u∈A++z::B:=by rw[←ho];exact all u oku
   rw[Kl,Kd]at huo
   rcases huo with q|q|q
   ·exfalso;obtain⟨A1,X,eA⟩:=List.append_of_mem q
    have e3:A1++u::(X++z::B)=A2++u::B2:=by rw[←e,ho,eA];simp
    have hn:(A1++u::(X++z::B)).Nodup :=by rw[e3,←e];exact h.nod
    have e4:=Qbx hn e3;subst e4;exact(K19.1 hn).2.2 z cz z (by simp) rfl
   ·subst q;exact hu.2
   ·exact absurd hu (hB u q)
  ·subst cz;exact hu.2
 ·exfalso
  have o2:y2∈A2++u::B2:=by rw[←e];exact all y2 (Way.closed okc c1.1 oku)
  rw[Kl,Kd]at o2
  rcases o2 with q|q|q
  ·exact c2 q
  ·exact c3 q
  ·exact hl y2 q (hu.trans c1)
structure ColI (g:Int→List Int) (r:Int) (Base G S:Int→Prop) (o:List Int):Prop where
 see:∀x,S x↔(Base x∨x∈o∨G x)
 new:∀x,x∈o∨G x→¬Base x∧Way g r x
 suc:∀x∈o,∀y∈g x,S y
theorem ColI.enter{g:Int→List Int}{r:Int}{Base G S:Int→Prop}{o:List Int}(h:ColI g r Base G S o){k:Int}(hk:¬S k)(hr:Way g r k):ColI g r Base (fun x=>G x∨x=k) (fun x=>S x∨x=k) o:=by
 refine⟨fun x=> ?_,fun x hx=> ?_,fun x hx y hy=>Or.inl (h.suc x hx y hy)⟩
 ·rw[h.see];constructor
  ·rintro((a|a|a)|a)
   ·exact Or.inl a
   ·exact Or.inr (Or.inl a)
   ·exact Or.inr (Or.inr (Or.inl a))
   ·exact Or.inr (Or.inr (Or.inr a))
  ·rintro(a|a|a|a)
   ·exact Or.inl (Or.inl a)
   ·exact Or.inl (Or.inr (Or.inl a))
   ·exact Or.inl (Or.inr (Or.inr a))
   ·exact Or.inr a
 ·rcases hx with a|a|a
  ·exact h.new x (Or.inl a)
  ·exact h.new x (Or.inr a)
  ·subst a;exact⟨fun c=>hk ((h.see x).2 (Or.inl c)),hr⟩
theorem ColI.leave{g:Int→List Int}{r:Int}{Base G S:Int→Prop}{o:List Int}{k:Int}(h:ColI g r Base (fun x=>G x∨x=k) S o)(hs:∀y∈g k,S y):ColI g r Base G S (o++[k]):=by
 refine⟨fun x=> ?_,fun x hx=> ?_,fun x hx y hy=> ?_⟩
 ·rw[h.see,Kl,Kn];constructor
  ·rintro(a|a|a|a)
   ·exact Or.inl a
   ·exact Or.inr (Or.inl (Or.inl a))
   ·exact Or.inr (Or.inr a)
   ·exact Or.inr (Or.inl (Or.inr a))
  ·rintro(a|(a|a)|a)
   ·exact Or.inl a
   ·exact Or.inr (Or.inl a)
   ·exact Or.inr (Or.inr (Or.inr a))
   ·exact Or.inr (Or.inr (Or.inl a))
 ·rw[Kl,Kn]at hx
  rcases hx with(a|a)|a
  ·exact h.new x (Or.inl a)
  ·exact h.new x (Or.inr (Or.inr a))
  ·exact h.new x (Or.inr (Or.inl a))
 ·rw[Kl,Kn]at hx
  rcases hx with a|a
  ·exact h.suc x a y hy
  ·subst a;exact hs y hy
theorem Qkg{g r:Int→List Int}{ok S T:Int→Prop}{o q:List Int}(h:FinI g (fun _=>False) S o)(all:∀x,ok x→x∈o)(okc:∀x,ok x→∀y∈g x,ok y)(okr:∀x,ok x→∀y∈r x,ok y)(hr:∀x y,ok x→(y∈r x↔x∈g y)){A B:List Int}{z:Int}(ho:o=A++z::B)(hz:ok z)
  {Base:Int→Prop}(hb:∀x,ok x→(Base x↔∃b∈B,Scc g x b))(hc:ColI r z Base (fun _=>False) T q)(hzb:¬Base z)(hzq:z∈q)(x:Int)(hx:ok x):x∈q↔Scc g z x:=by
 have turn:∀a b,ok a→Way r a b→Way g b a:=by
  intro a b ha hw
  induction hw with
  |here a=>exact Way.here a
  |step e _ ih=>exact(ih (okr _ ha _ e)).trans (Way.arc ((hr _ _ ha).1 e))
 constructor
 ·intro hq;obtain⟨h1,h2⟩:=hc.new x (Or.inl hq);have h3:=turn _ _ hz h2;exact⟨Qkj h all okc ho hx h3 (fun b hb2 hs=>h1 ((hb x hx).2 ⟨b,hb2,hs⟩)),h3⟩
 ·intro hs
  have back:∀a b,ok a→Way g a b→Way r b a:=by
   intro a b ha hw
   induction hw with
   |here a=>exact Way.here a
   |step e _ ih=>exact(ih (okc _ ha _ e)).snoc ((hr _ _ (okc _ ha _ e)).2 e)
  have key:∀a,Way r a x→ok a→a∈q→Scc g z a→x∈q:=by
   intro a hw
   induction hw with
   |here a=>exact fun _ hq _=>hq
   |step e hw ih=>
    intro ha hq hsa;have okb:=okr _ ha _ e;have hsb:=hc.suc _ hq _ e;have sb:Scc g z _:=⟨hs.1.trans (turn _ _ okb hw),(Way.arc ((hr _ _ ha).1 e)).trans hsa.2⟩
    rcases(hc.see _).1 hsb with c|c|c
    ·exfalso;obtain⟨b,hb1,hb2⟩:=(hb _ okb).1 c;exact hzb ((hb z hz).2 ⟨b,hb1,sb.trans hb2⟩)
    ·exact ih hx hs okb c sb
    ·exact c.elim
  exact key z (back _ _ hx hs.2) hz hzq (Scc.refl g z)
def updI(f:Int→Int)(k v:Int):Int→Int:=fun x=>if x=k then v else f x
theorem Qo(f:Int→Int)(k v:Int):updI f k v k=v:=if_pos rfl
theorem Qp(f:Int→Int){k x:Int}(v:Int)(h:¬x=k):updI f k v x=f x:=if_neg h
structure TarI (g:Int→List Int) (G:Int→Prop) (fo pa:Int→Int) (st:List Int) (vis:Int):Prop where
 fr:∀x,0≤fo x∧fo x≤vis
 see:∀x,fo x≠0↔(0≤pa x∨x∈st)
 dis:∀x∈st,pa x<0
 nn:∀x∈st,0≤x
 inc:st.Pairwise fun a b=>fo a<fo b
 gs:∀x,G x→x∈st
 cl:∀x,0≤pa x→∀y∈g x,0≤pa y
 val:∀x,0≤pa x→IsL g x (pa x)
 blk:∀x∈st,¬G x→(∀y∈g x,fo y≠0)∧∃y∈st,fo y<fo x∧Way g x y
theorem TarI.enter{g:Int→List Int}{G:Int→Prop}{fo pa:Int→Int}{st:List Int}{vis v:Int}(h:TarI g G fo pa st vis)(hv:fo v=0)(hv0:0≤v):TarI g (fun x=>G x∨x=v) (updI fo v (vis+1)) pa (st++[v]) (vis+1):=by
 have hvis:=h.fr v
 have hns:v∉st:=fun c=>(h.see v).2 (Or.inr c) hv
 have hne:∀x∈st,¬x=v:=fun x hx e=>by
  subst e;exact hns hx
 have hup:∀y,fo y≠0→updI fo v (vis+1) y≠0:=fun y hy=>by
  by_cases c:y=v
  ·subst c;exact absurd hv hy
  ·rwa[Qp _ _ c]
 refine⟨fun x=> ?_,fun x=> ?_,fun x hx=> ?_,fun x hx=> ?_,?_,fun x hx=> ?_,h.cl,h.val,fun x hx hg=> ?_⟩
 ·by_cases c:x=v
  ·subst c;rw[Qo];omega
  ·rw[Qp _ _ c];have:=h.fr x;omega
 ·by_cases c:x=v
  ·subst c;rw[Qo];exact⟨fun _=>Or.inr (by simp),fun _=>by omega⟩
  ·rw[Qp _ _ c,h.see,Kl,Kn];constructor
   ·rintro(a|a)
    ·exact Or.inl a
    ·exact Or.inr (Or.inl a)
   ·rintro(a|a|a)
    ·exact Or.inl a
    ·exact Or.inr a
    ·exact absurd a c
 ·rw[Kl,Kn]at hx
  rcases hx with hx|hx
  ·exact h.dis x hx
  ·subst hx
   rcases K2b (pa x) 0 with c|c
   ·exact c
   ·exact absurd hv ((h.see x).2 (Or.inl c))
 ·rw[Kl,Kn]at hx
  rcases hx with hx|hx
  ·exact h.nn x hx
  ·omega
 ·rw[List.pairwise_append];refine⟨h.inc.imp_of_mem fun{a b} ha hb hab=> ?_,List.pairwise_singleton _ _,fun a ha b hb=> ?_⟩
  ·rw[Qp _ _ (hne a ha),Qp _ _ (hne b hb)];exact hab
  ·rw[Kn]at hb;subst hb;rw[Qp _ _ (hne a ha),Qo];have:=h.fr a;omega
 ·rw[Kl,Kn]
  rcases hx with hx|hx
  ·exact Or.inl (h.gs x hx)
  ·exact Or.inr hx
 ·rw[Kl,Kn]at hx
  rcases hx with hx|hx
  ·obtain⟨h1,y,h2,h3,h4⟩:=h.blk x hx (fun c=>hg (Or.inl c));refine⟨fun z hz=>hup z (h1 z hz),y,Ke _ h2,?_,h4⟩;rw[Qp _ _ (hne y h2),Qp _ _ (hne x hx)];exact h3
  ·exact absurd (Or.inr hx) hg
structure TarL (g:Int→List Int) (G:Int→Prop) (v:Int) (S0:List Int) (fo0 lo0:Int→Int) (vis0:Int) (fo lo pa:Int→Int) (st:List Int) (vis:Int) (done:List Int):Prop where
 inv:TarI g (fun x=>G x∨x=v) fo pa st vis
 gs0:∀x,G x→x∈S0
 stk:∃M,st=S0++v::M∧∀x∈M,Way g v x∧∀y∈g x,y∈S0→lo v≤fo y
 keep:∀x,fo0 x≠0→fo x=fo0 x∧lo x=lo0 x
 fv:vis0<fo v
 vs:vis0≤vis
 lv:lo v≤fo v
 low:∃u∈st,fo u=lo v∧Way g v u
 dn:∀w∈done,fo w≠0∧(w∈S0→lo v≤fo w)
structure TarP (g:Int→List Int) (G:Int→Prop) (v:Int) (S0:List Int) (fo0 lo0:Int→Int) (vis0:Int) (fo lo pa:Int→Int) (st:List Int) (vis:Int):Prop where
 inv:TarI g G fo pa st vis
 keep:∀x,fo0 x≠0→fo x=fo0 x∧lo x=lo0 x
 fv:vis0<fo v
 vs:vis0≤vis
 out:∃N,st=S0++N∧(∀x∈N,Way g v x∧∀y∈g x,y∈S0→lo v≤fo y)∧((N=[]∧fo v≤lo v)∨∃u∈st,fo u=lo v∧Way g v u)
theorem TarL.start{g:Int→List Int}{G:Int→Prop}{fo lo pa:Int→Int}{st:List Int}{vis v:Int}(h:TarI g G fo pa st vis)(hv:fo v=0)(hv0:0≤v):TarL g G v st fo lo vis (updI fo v (vis+1)) (updI lo v (vis+1)) pa (st++[v]) (vis+1) []:=by
 refine⟨h.enter hv hv0,h.gs,⟨[],rfl,fun x hx=>by cases hx⟩,fun x hx=> ?_,?_,by omega,?_,⟨v,by simp,?_,Way.here v⟩,fun w hw=>by cases hw⟩
 ·have:¬x=v:=fun e=>hx (by rw[e];exact hv)
  exact⟨Qp _ _ this,Qp _ _ this⟩
 ·rw[Qo];omega
 ·rw[Qo,Qo];omega
 ·rw[Qo,Qo]
theorem TarL.skip{g:Int→List Int}{G:Int→Prop}{fo0 lo0 fo lo pa:Int→Int}{S0 st done:List Int}{vis0 vis v w:Int}(h:TarL g G v S0 fo0 lo0 vis0 fo lo pa st vis done)(hp:0≤pa w):TarL g G v S0 fo0 lo0 vis0 fo lo pa st vis (w::done):=by
 refine{h with dn:=fun x hx=> ?_}
 rcases Kd.1 hx with rfl|hx
 ·refine⟨(h.inv.see x).2 (Or.inl hp),fun hs=> ?_⟩;obtain⟨M,e,_⟩:=h.stk;have:=h.inv.dis x (by rw[e];exact Ke _ hs);omega
 ·exact h.dn x hx
theorem TarL.seen{g:Int→List Int}{G:Int→Prop}{fo0 lo0 fo lo pa:Int→Int}{S0 st done:List Int}{vis0 vis v w:Int}(h:TarL g G v S0 fo0 lo0 vis0 fo lo pa st vis done)(hw:w∈g v)(h1:fo w≠0)(hp:pa w<0)(hv0:fo0 v=0):
  TarL g G v S0 fo0 lo0 vis0 fo (updI lo v (min (lo v) (fo w))) pa st vis (w::done):=by
 obtain⟨M,e,hM⟩:=h.stk;have hlv:=h.lv;refine⟨h.inv,h.gs0,⟨M,e,fun x hx=>⟨(hM x hx).1,fun y hy hs=> ?_⟩⟩,fun x hx=> ?_,h.fv,h.vs,?_,?_,fun x hx=> ?_⟩
 ·rw[Qo];have:=(hM x hx).2 y hy hs;omega
 ·have:¬x=v:=fun e=>hx (by rw[e];exact hv0)
  rw[Qp _ _ this];exact h.keep x hx
 ·rw[Qo];omega
 ·rw[Qo]
  rcases Int.le_total (lo v) (fo w)with c|c
  ·obtain⟨u,h2,h3,h4⟩:=h.low;exact⟨u,h2,by omega,h4⟩
  ·refine⟨w,?_,by omega,Way.arc hw⟩
   rcases(h.inv.see w).1 h1 with q|q
   ·omega
   ·exact q
 ·rw[Qo]
  rcases Kd.1 hx with rfl|hx
  ·exact⟨h1,fun _=>by omega⟩
  ·have:=h.dn x hx;exact⟨this.1,fun q=>by have:=this.2 q;omega⟩
theorem TarL.call{g:Int→List Int}{G:Int→Prop}{fo0 lo0 fo lo pa fo2 lo2 pa2:Int→Int}{S0 st done st2:List Int}{vis0 vis vis2 v w:Int}(h:TarL g G v S0 fo0 lo0 vis0 fo lo pa st vis done)(hw:w∈g v)(h1:fo w=0)(hv0:fo0 v=0)
  (p:TarP g (fun x=>G x∨x=v) w st fo lo vis fo2 lo2 pa2 st2 vis2):TarL g G v S0 fo0 lo0 vis0 fo2 (updI lo2 v (min (lo2 v) (lo2 w))) pa2 st2 vis2 (w::done):=by
 obtain⟨M,e,hM⟩:=h.stk;obtain⟨N,e2,hN,hout⟩:=p.out;have hlv:=h.lv;have hfv:=h.fv;have hvs:=h.vs;have hvs2:=p.vs;have hpfv:=p.fv;have hvr:=h.inv.fr v
 have hvv:v∈st:=by rw[e];simp
 have hfv0:fo v≠0:=(h.inv.see v).2 (Or.inr hvv);obtain⟨k1,k2⟩:=p.keep v hfv0
 have kst:∀x∈st,fo2 x=fo x∧lo2 x=lo x:=fun x hx=>p.keep x ((h.inv.see x).2 (Or.inr hx))
 have hS:∀y,y∈S0→y∈st:=fun y hy=>by rw[e];exact Ke _ hy
 refine⟨p.inv,h.gs0,⟨M++N,by rw[e2,e];simp,fun x hx=> ?_⟩,fun x hx=> ?_,by omega,by omega,?_,?_,fun x hx=> ?_⟩
 ·rw[Qo,k2]
  rcases Kl.1 hx with hx|hx
  ·refine⟨(hM x hx).1,fun y hy hs=> ?_⟩;have a:=(hM x hx).2 y hy hs;have b:=(kst y (hS y hs)).1;omega
  ·refine⟨Way.step hw (hN x hx).1,fun y hy hs=> ?_⟩;have a:=(hN x hx).2 y hy (hS y hs);omega
 ·have hne:¬x=v:=fun e=>hx (by rw[e];exact hv0)
  obtain⟨a1,a2⟩:=h.keep x hx;obtain⟨b1,b2⟩:=p.keep x (by rw[a1];exact hx);rw[Qp _ _ hne,b1,b2,a1,a2];exact⟨rfl,rfl⟩
 ·rw[Qo,k2,k1];omega
 ·rw[Qo,k2]
  have old:∃u∈st2,fo2 u=lo v∧Way g v u:=by
   obtain⟨u,h2,h3,h4⟩:=h.low;exact⟨u,by rw[e2];exact Ke _ h2,by rw[(kst u h2).1];exact h3,h4⟩
  rcases Int.le_total (lo v) (lo2 w)with c|c
  ·rw[Int.min_eq_left c];exact old
  ·rw[Int.min_eq_right c]
   rcases hout with⟨_,q⟩|⟨u,q1,q2,q3⟩
   ·have:lo2 w=lo v:=by omega
    rw[this];exact old
   ·exact⟨u,q1,q2,Way.step hw q3⟩
 ·rw[Qo,k2]
  rcases Kd.1 hx with rfl|hx
  ·refine⟨by omega,fun hs=> ?_⟩;exact absurd h1 ((h.inv.see x).2 (Or.inr (hS x hs)))
  ·obtain⟨a1,a2⟩:=h.dn x hx;obtain⟨b1,b2⟩:=p.keep x a1;rw[b1];exact⟨a1,fun q=>by have:=a2 q;omega⟩
theorem TarL.stay{g:Int→List Int}{G:Int→Prop}{fo0 lo0 fo lo pa:Int→Int}{S0 st done:List Int}{vis0 vis v:Int}(h:TarL g G v S0 fo0 lo0 vis0 fo lo pa st vis done)(hd:∀y∈g v,y∈done)(hl:lo v<fo v):TarP g G v S0 fo0 lo0 vis0 fo lo pa st vis:=by
 obtain⟨M,e,hM⟩:=h.stk;refine⟨{h.inv with gs:=fun x hx=>h.inv.gs x (Or.inl hx),blk:=fun x hx hg=> ?_},h.keep,h.fv,h.vs,⟨v::M,e,fun x hx=> ?_,Or.inr h.low⟩⟩
 ·by_cases c:x=v
  ·subst c;obtain⟨u,h2,h3,h4⟩:=h.low;exact⟨fun y hy=>(h.dn y (hd y hy)).1,u,h2,by omega,h4⟩
  ·exact h.inv.blk x hx (fun q=>q.elim hg c)
 ·rcases Kd.1 hx with rfl|hx
  ·exact⟨Way.here x,fun y hy hs=>(h.dn y (hd y hy)).2 hs⟩
  ·exact hM x hx
theorem TarL.pop{g:Int→List Int}{G:Int→Prop}{fo0 lo0 fo lo pa:Int→Int}{S0 M done:List Int}{vis0 vis v m:Int}(h:TarL g G v S0 fo0 lo0 vis0 fo lo pa (S0++v::M) vis done)(hd:∀y∈g v,y∈done)(hl:fo v≤lo v)(hm:m∈v::M)(hle:∀x∈v::M,m≤x)
  {pa2:Int→Int}(hp1:∀x∈v::M,pa2 x=m)(hp2:∀x,x∉v::M→pa2 x=pa x):TarP g G v S0 fo0 lo0 vis0 fo lo pa2 S0 vis:=by
 obtain⟨M2,e,hM⟩:=h.stk
 obtain rfl:M=M2:=by simpa using e
 obtain⟨i1,i2,i3⟩:=List.pairwise_append.1 h.inv.inc;rw[List.pairwise_cons]at i2
 have hvN:∀x∈v::M,fo v≤fo x:=fun x hx=>by
  rcases Kd.1 hx with rfl|hx
  ·exact Int.le_refl _
  ·exact Int.le_of_lt (i2.1 x hx)
 have dj:∀x∈S0,x∉v::M:=fun x hx c=>by
  have:=i3 x hx x c;omega
 have mem:∀x∈v::M,x∈S0++v::M:=fun x hx=>Kw _ hx
 have edge:∀x∈v::M,∀y∈g x,0≤pa y∨y∈v::M:=by
  intro x hx y hy
  have hfy:fo y≠0∧(y∈S0→lo v≤fo y):=by
   rcases Kd.1 hx with rfl|hx2
   ·exact h.dn y (hd y hy)
   ·have ng:¬(G x∨x=v):=by
     rintro(c|c)
     ·exact dj x (h.gs0 x c) hx
     ·subst c;have:=i2.1 x hx2;omega
    exact⟨(h.inv.blk x (mem x hx) ng).1 y hy,(hM x hx2).2 y hy⟩
  rcases(h.inv.see y).1 hfy.1 with c|c
  ·exact Or.inl c
  ·rcases Kl.1 c with c|c
   ·have a:=hfy.2 c;have b:=i3 y c v (by simp);omega
   ·exact Or.inr c
 have clo:∀x,Way g v x→0≤pa x∨x∈v::M:=fun x hw=>Way.closed (P:=fun x=>0≤pa x∨x∈v::M) (fun x hx y hy=>by
  rcases hx with hx|hx
  ·exact Or.inl (h.inv.cl x hx y hy)
  ·exact edge x hx y hy) hw (Or.inr (by simp))
 have down:∀x∈v::M,Way g v x:=fun x hx=>by
  rcases Kd.1 hx with rfl|hx
  ·exact Way.here x
  ·exact(hM x hx).1
 have up:∀(n:Nat) (x:Int),(fo x).toNat =n→x∈v::M→Way g x v:=by
  intro n
  induction n using Nat.strongRecOn with
  |_ n ih=>
   intro x hn hx
   by_cases c:x=v
   ·subst c;exact Way.here x
   ·have ng:¬(G x∨x=v):=by
     rintro(q|q)
     ·exact dj x (h.gs0 x q) hx
     ·exact c q
    obtain⟨_,y,h2,h3,h4⟩:=h.inv.blk x (mem x hx) ng
    have hy:y∈v::M:=by
     rcases clo y ((down x hx).trans h4)with q|q
     ·have:=h.inv.dis y h2;omega
     ·exact q
    have f1:=h.inv.fr y;have f2:=h.inv.fr x;exact h4.trans (ih _ (by omega) y rfl hy)
 have scc1:∀x∈v::M,Scc g v x:=fun x hx=>⟨down x hx,up _ x rfl hx⟩
 have scc2:∀x,Scc g v x→x∈v::M:=fun x hs=>by
  rcases clo x hs.1 with q|q
  ·have a:0≤pa v:=Way.closed (P:=fun x=>0≤pa x) (fun x hx y hy=>h.inv.cl x hx y hy) hs.2 q;have b:=h.inv.dis v (mem v (by simp));omega
  ·exact q
 have m0:0≤m:=h.inv.nn m (mem m hm)
 have isl:∀x∈v::M,IsL g x m:=fun x hx=>⟨(scc1 x hx).symm.trans (scc1 m hm),fun y hy=>hle y (scc2 y ((scc1 x hx).trans hy))⟩
 have pos:∀x,0≤pa x→0≤pa2 x:=fun x hx=>by
  by_cases c:x∈v::M
  ·rw[hp1 x c];exact m0
  ·rw[hp2 x c];exact hx
 refine⟨⟨h.inv.fr,fun x=> ?_,fun x hx=> ?_,fun x hx=>h.inv.nn x (Ke _ hx),i1,h.gs0,fun x hx y hy=> ?_,fun x hx=> ?_,fun x hx hg=> ?_⟩,h.keep,h.fv,h.vs,⟨[],by simp,(fun x hx=>by cases hx),Or.inl ⟨rfl,hl⟩⟩⟩
 ·rw[h.inv.see x,Kl]
  by_cases c:x∈v::M
  ·rw[hp1 x c];exact⟨fun _=>Or.inl m0,fun _=>Or.inr (Or.inr c)⟩
  ·rw[hp2 x c];constructor
   ·rintro(a|a|a)
    ·exact Or.inl a
    ·exact Or.inr a
    ·exact absurd a c
   ·rintro(a|a)
    ·exact Or.inl a
    ·exact Or.inr (Or.inl a)
 ·rw[hp2 x (dj x hx)];exact h.inv.dis x (Ke _ hx)
 ·by_cases c:x∈v::M
  ·rcases edge x c y hy with q|q
   ·exact pos y q
   ·rw[hp1 y q];exact m0
  ·rw[hp2 x c]at hx;exact pos y (h.inv.cl x hx y hy)
 ·by_cases c:x∈v::M
  ·rw[hp1 x c];exact isl x c
  ·rw[hp2 x c]at hx⊢;exact h.inv.val x hx
 ·have ng:¬(G x∨x=v):=by
   rintro(q|q)
   ·exact hg q
   ·subst q;exact dj x hx (by simp)
  obtain⟨b1,y,b2,b3,b4⟩:=h.inv.blk x (Ke _ hx) ng;refine⟨b1,y,?_,b3,b4⟩
  rcases Kl.1 b2 with q|q
  ·exact q
  ·have:=i3 x hx y q;omega
theorem TarI.empty{g:Int→List Int}{fo pa:Int→Int}{st:List Int}{vis:Int}(h:TarI g (fun _=>False) fo pa st vis):st=[]:=by
 cases st with
 |nil=>rfl
 |cons a l=>
  obtain⟨_,y,h2,h3,_⟩:=h.blk a (by simp) (fun c=>c);have:=(List.pairwise_cons.1 h.inc).1
  rcases Kd.1 h2 with rfl|h2
  ·omega
  ·have:=this y h2;omega
def vw(d:Int)(l:List Int):Int→Int:=fun x=>if 0≤x then l.getD x.toNat d else d
theorem Q55(d:Int)(l:List Int){x:Int}(h:0≤x):vw d l x=l.getD x.toNat d:=if_pos h
theorem Qld(d e:Int)(l:List Int){x:Int}(h:0≤x∧x<(l.length:Int)):vw d l x=l.getD x.toNat e:=by
 have h2:x.toNat<l.length:=by omega
 rw[Q55 d l h.1];simp[K1,h2]
theorem Qd9(d:Int)(l:List Int){x:Int}(h:x<0∨(l.length:Int)≤x):vw d l x=d:=by
 unfold vw
 by_cases c:0≤x
 ·rw[if_pos c,K1,K1p (by omega)];rfl
 ·rw[if_neg c]
theorem Q5w(d:Int)(l:List Int){k:Int}(v:Int)(h:0≤k∧k<(l.length:Int)):vw d (l.set k.toNat v)=updI (vw d l) k v:=by
 funext x
 by_cases c:0≤x
 ·rw[Q55 d _ c,K1,List.getElem?_set]
  by_cases e:x=k
  ·subst e;rw[if_pos rfl,if_pos (by omega),Qo];rfl
  ·rw[if_neg (by omega),Qp _ _ e,Q55 d l c,K1]
 ·rw[Qd9 d _ (Or.inl (by omega)),Qp _ _ (by omega),Qd9 d l (Or.inl (by omega))]
theorem Q5v(d v:Int)(n:Nat){x:Int}(h:0≤x∧x<(n:Int)):vw d (List.replicate n v) x=v:=by
 have h2:x.toNat<n:=by omega
 rw[Q55 d _ h.1];simp[K1,h2]
def gOf(R:List DLI):Int→List Int:=fun x=>if 0≤x then(R.getD x.toNat (true,[])).2 else[]
theorem Qjt(R:List DLI){x:Int}(h:0≤x):gOf R x=(R.getD x.toNat (true,[])).2 :=if_pos h
def Q57(l:List Int):Nat:=l.countP fun x=>x==0
theorem Qhk{l:List Int}{k:Int}{v:Int}(h:0≤k∧k<(l.length:Int))(h0:l.getD k.toNat 0=0)(hv:v≠0):Q57 (l.set k.toNat v)+1=Q57 l:=by
 have h2:k.toNat<l.length:=by omega
 have e:l.getD k.toNat 0=l[k.toNat]:=by simp[K1,h2]
 rw[e]at h0;unfold Q57
 have hp:0<l.countP fun x=>x==0:=List.countP_pos_iff.2 ⟨l[k.toNat],K4 h2,by rw[h0];rfl⟩
 rw[List.countP_set h2,h0,if_pos (by rfl),if_neg (by simpa using hv)];omega
def minL:List Int→Int
 |[]=>0
 |a::l=>l.foldl (fun m x=>if x<m then x else m) a
theorem Q9r(l:List Int):∀a,(l.foldl (fun m x=>if x<m then x else m) a=a∨l.foldl (fun m x=>if x<m then x else m) a∈l)∧l.foldl (fun m x=>if x<m then x else m) a≤a∧∀y∈l,l.foldl (fun m x=>if x<m then x else m) a≤y:=by
 induction l with
 |nil=>intro a;exact⟨Or.inl rfl,Int.le_refl _,fun y hy=>by cases hy⟩
 |cons b l ih=>
  intro a;obtain⟨h1,h2,h3⟩:=ih (if b<a then b else a);rw[K17];refine⟨?_,?_,fun y hy=> ?_⟩
  ·rcases h1 with h1|h1
   ·rw[h1]
    by_cases c:b<a
    ·rw[if_pos c];exact Or.inr (by simp)
    ·rw[if_neg c];exact Or.inl rfl
   ·exact Or.inr (K9 _ h1)
  ·refine Int.le_trans h2 ?_;split<;>omega
  ·rcases Kd.1 hy with rfl|hy
   ·refine Int.le_trans h2 ?_;split<;>omega
   ·exact h3 y hy
theorem Qgj{l:List Int}(h:l≠[]):minL l∈l∧∀y∈l,minL l≤y:=by
 cases l with
 |nil=>exact absurd rfl h
 |cons a l=>
  obtain⟨h1,h2,h3⟩:=Q9r l a;refine⟨?_,fun y hy=> ?_⟩
  ·show l.foldl (fun m x=>if x<m then x else m) a∈a::l
   rcases h1 with h1|h1
   ·rw[h1];exact Kk
   ·exact K9 _ h1
  ·rcases Kd.1 hy with rfl|hy
   ·exact h2
   ·exact h3 y hy
theorem Qm0(x:DLI)(hx:x.2.length≤1048576)(d:Nat):∀(i:Nat) (m:Int),i+d=x.2.length→F96 x m (i:Int)=some ((x.2.drop i).foldl (fun m x=>if x<m then x else m) m):=by
 induction d with
 |zero=>
  intro i m hi;rw[F96E,gFo,K8 (by omega)];rfl
 |succ d ih=>
  intro i m hi
  have hlt:i<x.2.length:=by omega
  rw[F96E,gTo,gTo,gTo,J2 x.2 _ i hlt,up1o i,J1,ih (i+1) _ (by omega),K2 hlt,K17]
  by_cases c:x.2[i]<m
  ·rw[gT c,if_pos c]
  ·rw[gF c,if_neg c]
theorem Qlz(b:Bool)(l:List Int)(h:l≠[])(hl:l.length≤1048576):F3q (b,l)=some (minL l):=by
 cases l with
 |nil=>exact absurd rfl h
 |cons a l=>
  have e:=Qm0 (b,a::l) hl l.length 1 a (by simp;omega);rw[F3qE,gF (by simp only[Kq];omega),gT (by simp only[Kq];omega)];have e':F96 (b,a::l) ((a::l).getD 0 0) 1=_:=e;rw[e',J0];rfl
structure TRow (m:Nat) (fo lo pa st:List Int) (vis:Int):Prop where
 l1:fo.length=m
 l2:lo.length=m
 l3:pa.length=m
 l4:(st.length:Int)≤vis
 l5:∀x∈st,0≤x∧x<(m:Int)
 l6:vis+(Q57 fo:Int)≤(m:Int)
theorem Qm6(m:Nat)(t0:DRI)(fo lo:DLI)(bp bs:Bool)(st:List Int)(vis:Int)(k:Nat)(k_ least:Int)(hk:k≤st.length)(hst:st.length≤100000)(hin:∀x∈st,0≤x∧x<(m:Int))(d:Nat):∀(i:Nat) (pa:List Int),i+d=st.length-k→pa.length=m→
  ∃pa2:List Int,pa2.length=m∧(∀x∈st.drop (k+i),vw (-1) pa2 x=least)∧(∀x,x∉st.drop (k+i)→vw (-1) pa2 x=vw (-1) pa x)∧
   Fc1 t0 fo lo (bp,pa) (bs,st) vis k_ least (k:Int) (st.length:Int) ((st.length-k:Nat):Int) (i:Int)=some (t0,(fo,(lo,((bp,pa2),((bs,st),vis))))):=by
 induction d with
 |zero=>
  intro i pa hi hp
  refine⟨pa,hp,fun x hx=> ?_,fun x _=>rfl,by rw[Fc1E,gF (by first|omega|(simp only;omega))]⟩
  rw[K8 (by omega)]at hx;cases hx
 |succ d ih=>
  intro i pa hi hp
  have hlt:k+i<st.length:=by omega
  have hx:=hin _ (K4 hlt);obtain⟨pa2,h1,h2,h3,h4⟩:=ih (i+1) (pa.set (toNat st[k+i]) least) (by omega) (by rw[Km];exact hp)
  have e:st.getD (k+i) 0=st[k+i]:=by simp[K1,hlt]
  refine⟨pa2,h1,fun x hx2=> ?_,fun x hx2=> ?_,?_⟩
  ·rw[K2 hlt]at hx2
   by_cases c:x∈st.drop (k+(i+1))
   ·exact h2 x c
   ·rw[h3 x c,Q5w (-1) pa least (by omega)]
    rcases Kd.1 hx2 with rfl|hx2
    ·exact Qo _ _ _
    ·exact absurd hx2 c
  ·rw[K2 hlt]at hx2
   have n1:¬x=st[k+i]:=fun q=>hx2 (by rw[q];exact Kk)
   have n2:x∉st.drop (k+(i+1)):=fun q=>hx2 (K9 _ q)
   rw[h3 x n2,Q5w (-1) pa least (by omega),Qp _ _ n1]
  ·rw[Fc1E,gT (by first|omega|(simp only;omega)),gT (by first|omega|(simp only;omega)),gT (by simp only[K3];omega)]
   simp only[K3,e]
   rw[gT hx.1,gT (by first|omega|(simp only;omega)),up1o i,J1]
   exact h4
theorem Qbe{A B:List Int}{v:Int}(h:v∉A):((A++v::B).any fun x=>v==x)=true∧(A++v::B).findIdx (fun x=>v==x)=A.length:=by
 constructor
 ·rw[Ku];exact⟨v,by simp,by simp⟩
 ·induction A with
  |nil=>simp[List.findIdx_cons]
  |cons a A ih=>
   have n:¬v=a:=fun q=>h (by rw[q];exact Kk)
   have e:(v==a)=false:=by simpa using n
   rw[List.cons_append,List.findIdx_cons,e,cond_false,ih (fun q=>h (K9 _ q)),Kq]
def Qes(m:Nat)(R:List DLI)(nb:Bool)(N:Nat):Prop:=
 ∀(G:Int→Prop) (fo lo pa st:List Int) (vis v:Int) (b1 b2 b3 b4:Bool),TRow m fo lo pa st vis→TarI (gOf R) G (vw 0 fo) (vw (-1) pa) st vis→0≤v∧v<(m:Int)→vw 0 fo v=0→Q57 fo≤N→
  ∃(fo2 lo2 pa2 st2:List Int) (vis2:Int) (c4:Bool),F11 (nb,R) (b1,fo) (b2,lo) (b3,pa) (b4,st) vis v=some ((nb,R),((b1,fo2),((b2,lo2),((b3,pa2),((c4,st2),vis2)))))∧
   TRow m fo2 lo2 pa2 st2 vis2∧TarP (gOf R) G v st (vw 0 fo) (vw 0 lo) vis (vw 0 fo2) (vw 0 lo2) (vw (-1) pa2) st2 vis2∧Q57 fo2≤Q57 fo
theorem Qm5{m:Nat}{R:List DLI}(hm:m≤100000)(nb:Bool){N:Nat}(ih:Qes m R nb N)(hin:∀x,∀y∈gOf R x,0≤y∧y<(m:Int)){G:Int→Prop}{v:Int}{S0:List Int}{fo0 lo0:Int→Int}{vis0:Int}(hv:0≤v∧v<(m:Int))(hv0:fo0 v=0)(r:DLI)(hr:r.2=gOf R v)(hrl:r.2.length≤20000000)(b1 b2 b3:Bool)(d:Nat):
  ∀(i:Nat) (fo lo pa st done:List Int) (vis:Int) (b4:Bool),i+d=r.2.length→TRow m fo lo pa st vis→TarL (gOf R) G v S0 fo0 lo0 vis0 (vw 0 fo) (vw 0 lo) (vw (-1) pa) st vis done→(∀y∈r.2.take i,y∈done)→Q57 fo≤N→
   ∃(fo2 lo2 pa2 st2 done2:List Int) (vis2:Int) (c4:Bool),F63 (nb,R) (b1,fo) (b2,lo) (b3,pa) (b4,st) vis v r (r.2.length:Int) (i:Int)=some ((nb,R),((b1,fo2),((b2,lo2),((b3,pa2),((c4,st2),vis2)))))∧
    TRow m fo2 lo2 pa2 st2 vis2∧TarL (gOf R) G v S0 fo0 lo0 vis0 (vw 0 fo2) (vw 0 lo2) (vw (-1) pa2) st2 vis2 done2∧(∀y∈r.2,y∈done2)∧Q57 fo2≤Q57 fo:=by
 induction d with
 |zero=>
  intro i fo lo pa st done vis b4 hi hR hL hd hN;rw[K1d (by omega)]at hd
  exact⟨fo,lo,pa,st,done,vis,b4,by rw[F63E,gF (by first|omega|(simp only;omega))],hR,hL,hd,Kz _⟩
 |succ d ihd=>
  intro i fo lo pa st done vis b4 hi hR hL hd hN
  have hlt:i<r.2.length:=by omega
  have hwg:r.2[i]∈gOf R v:=by rw[←hr];exact K4 hlt
  have hw:=hin v _ hwg;have hl1:=hR.l1;have hl2:=hR.l2;have hl3:=hR.l3
  have hnext:∀done2:List Int,(∀y∈done,y∈done2)→r.2[i]∈done2→∀y∈r.2.take (i+1),y∈done2:=by
   intro done2 h1 h2 y hy;rw[K1f hlt]at hy
   rcases Kl.1 hy with hy|hy
   ·exact h1 y (hd y hy)
   ·rw[Kn]at hy;rw[hy];exact h2
  rw[F63E,gT (by first|omega|(simp only;omega)),gT (by first|omega|(simp only;omega)),gT (by first|omega|(simp only;omega)),J2 r.2 _ i hlt,gT hw.1,gT (by first|omega|(simp only;omega)),up1o i]
  simp only;have ef:vw 0 fo r.2[i]=fo.getD (toNat r.2[i]) 0:=Q55 0 fo hw.1
  by_cases c:vw 0 fo r.2[i]=0
  ·rw[bT (by rw[beq_iff_eq,←ef];exact c)];obtain⟨fo2,lo2,pa2,st2,vis2,c4,e1,hR2,hP,hz⟩:=ih (fun x=>G x∨x=v) fo lo pa st vis r.2[i] b1 b2 b3 b4 hR hL.inv hw c hN;have hk1:=hR2.l1;have hk2:=hR2.l2;have e2:vw 0 lo2 v=lo2.getD v.toNat 0:=Q55 0 lo2 hv.1;have e3:vw 0 lo2 r.2[i]=lo2.getD (toNat r.2[i]) 0:=Q55 0 lo2 hw.1;have hL2:=hL.call hwg c hv0 hP
   have em:(bif decide (lo2.getD (toNat r.2[i]) 0<lo2.getD v.toNat 0)then lo2.getD (toNat r.2[i]) 0 else lo2.getD v.toNat 0)=min (vw 0 lo2 v) (vw 0 lo2 r.2[i]):=by
    rw[e2,e3]
    by_cases q:lo2.getD (toNat r.2[i]) 0<lo2.getD v.toNat 0
    ·rw[gT q];omega
    ·rw[gF q];omega
   rw[←Q5w 0 lo2 _ (by omega)]at hL2;obtain⟨fo3,lo3,pa3,st3,done3,vis3,c5,g1,g2,g3,g4,g5⟩:=ihd (i+1) fo2 _ pa2 st2 _ vis2 c4 (by omega) ⟨hR2.l1,by rw[Km];exact hR2.l2,hR2.l3,hR2.l4,hR2.l5,hR2.l6⟩ hL2 (hnext _ (fun y hy=>K9 _ hy) Kk) (by omega);refine⟨fo3,lo3,pa3,st3,done3,vis3,c5,?_,g2,g3,g4,by omega⟩;simp only[e1,J0,em]
   rw[gT hv.1,gT (by first|omega|(simp only;omega)),gT hw.1,gT (by first|omega|(simp only;omega)),gT hv.1,gT (by first|omega|(simp only;omega)),J1]
   exact g1
  ·rw[bF (by rw[beq_eq_false_iff_ne,←ef];exact c),gT hw.1,gT (by first|omega|(simp only;omega))]
   have ep:vw (-1) pa r.2[i]=pa.getD (toNat r.2[i]) 0:=Qld (-1) 0 pa (by omega)
   by_cases cp:vw (-1) pa r.2[i]<0
   ·have e2:vw 0 lo v=lo.getD v.toNat 0:=Q55 0 lo hv.1;have hL2:=hL.seen hwg c cp hv0
    have em:(bif decide (fo.getD (toNat r.2[i]) 0<lo.getD v.toNat 0)then fo.getD (toNat r.2[i]) 0 else lo.getD v.toNat 0)=min (vw 0 lo v) (vw 0 fo r.2[i]):=by
     rw[e2,ef]
     by_cases q:fo.getD (toNat r.2[i]) 0<lo.getD v.toNat 0
     ·rw[gT q];omega
     ·rw[gF q];omega
    rw[←Q5w 0 lo _ (by omega)]at hL2;obtain⟨fo3,lo3,pa3,st3,done3,vis3,c5,g1,g2,g3,g4,g5⟩:=ihd (i+1) fo _ pa st _ vis b4 (by omega) ⟨hR.l1,by rw[Km];exact hR.l2,hR.l3,hR.l4,hR.l5,hR.l6⟩ hL2 (hnext _ (fun y hy=>K9 _ hy) Kk) hN;refine⟨fo3,lo3,pa3,st3,done3,vis3,c5,?_,g2,g3,g4,g5⟩
    rw[gT (by rw[←ep];exact cp),gT hv.1,gT (by first|omega|(simp only;omega)),gT hw.1,gT (by first|omega|(simp only;omega)),gT hv.1,gT (by first|omega|(simp only;omega)),J1,em]
    exact g1
   ·have hL2:=hL.skip (w:=r.2[i]) (by omega);obtain⟨fo3,lo3,pa3,st3,done3,vis3,c5,g1,g2,g3,g4,g5⟩:=ihd (i+1) fo lo pa st _ vis b4 (by omega) hR hL2 (hnext _ (fun y hy=>K9 _ hy) Kk) hN;refine⟨fo3,lo3,pa3,st3,done3,vis3,c5,?_,g2,g3,g4,g5⟩;rw[gF (by rw[←ep];exact cp),J1];exact g1
theorem Qh5{m:Nat}{R:List DLI}(hm:m≤100000)(hlen:R.length=m)(nb:Bool)(hin:∀x,∀y∈gOf R x,0≤y∧y<(m:Int))(hrl:∀x,(gOf R x).length ≤20000000)(N:Nat):Qes m R nb N:=by
 have hlim:=J4
 induction N with
 |zero=>
  intro G fo lo pa st vis v b1 b2 b3 b4 hR hI hv h0 hN;exfalso;have hl1:=hR.l1
  have h2:v.toNat<fo.length:=by omega
  have e:vw 0 fo v=fo[v.toNat]:=by rw[Q55 0 fo hv.1];simp[K1,h2]
  have hp:0<fo.countP fun x=>x==0:=List.countP_pos_iff.2 ⟨fo[v.toNat],K4 h2,by rw[←e,h0];rfl⟩
  unfold Q57 at hN;omega
 |succ N ih=>
  intro G fo lo pa st vis v b1 b2 b3 b4 hR hI hv h0 hN;have hl1:=hR.l1;have hl2:=hR.l2;have hl3:=hR.l3;have hl4:=hR.l4;have hl6:=hR.l6;have hvr:=hI.fr v;have hz:=Qhk (l:=fo) (k:=v) (v:=vis+1) (by omega) (by rw[←Q55 0 fo hv.1];exact h0) (by omega);have hew:i64.wrap (vis+1)=vis+1:=wr (by omega);have hL:=TarL.start (lo:=vw 0 lo) hI h0 hv.1;rw[←Q5w 0 fo _ (by omega),←Q5w 0 lo _ (by omega)]at hL
  have hR1:TRow m (fo.set v.toNat (vis+1)) (lo.set v.toNat (vis+1)) pa (st++[v]) (vis+1):=by
   refine⟨by rw[Km];exact hl1,by rw[Km];exact hl2,hl3,by simp;omega,fun x hx=> ?_,by omega⟩
   rcases Kl.1 hx with hx|hx
   ·exact hR.l5 x hx
   ·rw[Kn]at hx;rw[hx];exact hv
  have hrow:(R.getD v.toNat (true,[])).2 =gOf R v:=(Qjt R hv.1).symm;obtain⟨fo2,lo2,pa2,st2,done2,vis2,c4,e1,hR2,hL2,hd2,hz2⟩:=Qm5 hm nb ih hin hv h0 (R.getD v.toNat (true,[])) hrow (by rw[hrow];exact hrl v) b1 b2 b3 (R.getD v.toNat (true,[])).2.length 0 _ _ pa (st++[v]) [] (vis+1) (b4&&false) (by omega) hR1 hL (by simp) (by omega);have e1':F63 (nb,R) (b1,fo.set v.toNat (vis+1)) (b2,lo.set v.toNat (vis+1)) (b3,pa) (b4&&false,st++[v]) (vis+1) v (R.getD v.toNat (true,[])) ((R.getD v.toNat (true,[])).2.length :Int) 0=_:=e1
  have hd3:∀y∈gOf R v,y∈done2:=by rw[←hrow];exact hd2
  have hk1:=hR2.l1;have hk2:=hR2.l2;have hk4:=hR2.l4;have hk6:=hR2.l6;have ea:vw 0 lo2 v=lo2.getD v.toNat 0:=Q55 0 lo2 hv.1;have eb:vw 0 fo2 v=fo2.getD v.toNat 0:=Q55 0 fo2 hv.1;rw[F11E];simp only[hew]
  rw[gT hv.1,gT (by first|omega|(simp only;omega)),gT hv.1,gT (by first|omega|(simp only;omega)),gT (by simp;omega),gT hv.1,gT (by first|omega|(simp only;omega))]
  simp only[e1',J0]
  rw[gT hv.1,gT (by first|omega|(simp only;omega)),gT hv.1,gT (by first|omega|(simp only;omega))]
  by_cases c:vw 0 lo2 v<vw 0 fo2 v
  ·rw[gT (by rw[←ea,←eb];exact c)];exact⟨fo2,lo2,pa2,st2,vis2,c4,rfl,hR2,hL2.stay hd3 c,by omega⟩
  ·rw[gF (by rw[←ea,←eb];exact c)];obtain⟨M,est,hM⟩:=hL2.stk;have hinc:=(List.pairwise_append.1 (by rw[←est];exact hL2.inv.inc:(st++v::M).Pairwise fun a b=>vw 0 fo2 a<vw 0 fo2 b)).2.2
   have hns:v∉st:=fun q=>by
    have:=hinc v q v (by simp);omega
   obtain⟨i1,i2⟩:=Qbe (B:=M) hns
   have hsl:st2.length≤100000:=by omega
   have ei:=Q8o (c4,st2) v (by simp only;omega);simp only at ei;rw[est,i1,i2,cond_true]at ei
   have hdrop:(st++v::M).drop st.length=v::M:=by rw[List.drop_left]
   have htake:(st++v::M).take st.length=st:=by rw[List.take_left]
   have hne:v::M≠[]:=by simp
   obtain⟨m1,m2⟩:=Qgj hne
   have hlenst:(st++v::M).length =st2.length:=by rw[est]
   have hmin:=Qlz c4 (v::M) hne (by rw[←hdrop,K29];omega);obtain⟨pa3,p1,p2,p3,p4⟩:=Qm6 m (nb,R) (b1,fo2) (b2,lo2) b3 c4 (st++v::M) vis2 st.length (st.length:Int) (minL (v::M)) (by simp) (by omega) (by rw[←est];exact hR2.l5) ((st++v::M).length -st.length) 0 pa2 (by omega) hR2.l3;rw[K2d,hdrop]at p2 p3;have p4':Fc1 (nb,R) (b1,fo2) (b2,lo2) (b3,pa2) (c4,st++v::M) vis2 (st.length:Int) (minL (v::M)) (st.length:Int) ((st++v::M).length :Int) (((st++v::M).length -st.length:Nat):Int) 0=_:=p4;subst est;have hP:=hL2.pop hd3 (by omega) m1 m2 p2 p3;simp only[ei,J0,K3,List.take_length,hdrop,hmin,p4',htake,Kg]
   have hle:(st.length:Int)≤((st++v::M).length :Int):=by rw[Kf];omega
   have h00:(0:Int)≤(st.length:Int):=by omega
   rw[gT h00,gT hle,gT h00,gT hle,gT h00,gT hle];refine⟨fo2,lo2,pa3,st,vis2,c4,rfl,⟨hk1,hk2,p1,?_,hR.l5,hk6⟩,hP,by omega⟩;simp only[Kf,Kq]at hk4;omega
theorem Qam{m:Nat}{R:List DLI}(hm:m≤100000)(hlen:R.length=m)(nb:Bool)(hin:∀x,∀y∈gOf R x,0≤y∧y<(m:Int))(hrl:∀x,(gOf R x).length ≤20000000)(b1 b2 b3:Bool)(d:Nat):∀(i:Nat) (fo lo pa:List Int) (vis:Int) (b4:Bool),i+d=m→TRow m fo lo pa [] vis→TarI (gOf R) (fun _=>False) (vw 0 fo) (vw (-1) pa) [] vis→(∀x,0≤x∧x<(i:Int)→vw 0 fo x≠0)→
  ∃(fo2 lo2 pa2:List Int) (vis2:Int) (c4:Bool),F6o (nb,R) (b1,fo) (b2,lo) (b3,pa) (b4,[]) vis (m:Int) (i:Int)=some ((nb,R),((b1,fo2),((b2,lo2),((b3,pa2),((c4,[]),vis2)))))∧pa2.length=m∧∀x,0≤x∧x<(m:Int)→IsL (gOf R) x (vw (-1) pa2 x):=by
 induction d with
 |zero=>
  intro i fo lo pa vis b4 hi hR hI hs
  obtain rfl:i=m:=by omega
  refine⟨fo,lo,pa,vis,b4,by rw[F6oE,gF (by first|omega|(simp only;omega))],hR.l3,fun x hx=> ?_⟩
  rcases(hI.see x).1 (hs x hx)with q|q
  ·exact hI.val x q
  ·cases q
 |succ d ih=>
  intro i fo lo pa vis b4 hi hR hI hs;have hl1:=hR.l1;have ef:vw 0 fo (i:Int)=fo.getD i 0:=Q55 0 fo (by omega)
  rw[F6oE,gT (by first|omega|(simp only;omega)),gT (by first|omega|(simp only;omega)),gTs,K3,up1o i]
  simp only
  by_cases c:vw 0 fo (i:Int)=0
  ·rw[bT (by rw[beq_iff_eq,←ef];exact c)];obtain⟨fo2,lo2,pa2,st2,vis2,c4,e1,hR2,hP,hz⟩:=Qh5 hm hlen nb hin hrl (Q57 fo) (fun _=>False) fo lo pa [] vis (i:Int) b1 b2 b3 b4 hR hI (by omega) c (Kz _);have hst:=hP.inv.empty;subst hst
   obtain⟨fo3,lo3,pa3,vis3,c5,g1,g2,g3⟩:=ih (i+1) fo2 lo2 pa2 vis2 c4 (by omega) hR2 hP.inv (fun x hx=>by
    by_cases q:x=(i:Int)
    ·rw[q];have:=hP.fv;have:=hI.fr (i:Int);omega
    ·rw[(hP.keep x (hs x (by omega))).1]
     exact hs x (by omega))
   refine⟨fo3,lo3,pa3,vis3,c5,?_,g2,g3⟩;simp only[e1,J0];rw[J1];exact g1
  ·rw[bF (by rw[beq_eq_false_iff_ne,←ef];exact c),J1]
   exact ih (i+1) fo lo pa vis b4 (by omega) hR hI (fun x hx=>by
    by_cases q:x=(i:Int)
    ·rw[q];exact c
    ·exact hs x (by omega))
theorem Qfl(m:Nat)(a:Int):(List.replicate m [a]).flatten =List.replicate m a:=by
 induction m with
 |zero=>rfl
 |succ m ih=>rw[List.replicate_succ,List.replicate_succ,List.flatten_cons,ih];rfl
theorem Q7a(m:Nat):Q57 (List.replicate m 0)=m:=by
 unfold Q57;rw[List.countP_replicate];rfl
theorem Qh4{m:Nat}{R:List DLI}(h1:1≤m)(hm:m≤10000)(hlen:R.length=m)(nb:Bool)(hin:∀x,∀y∈gOf R x,0≤y∧y<(m:Int))(hrl:∀x,(gOf R x).length ≤20000000):
  ∃b P,F2e (nb,R)=some (b,P)∧P.length=m∧∀x,0≤x∧x<(m:Int)→IsL (gOf R) x (vw (-1) P x):=by
 have hlim:=J4
 have hf:∀x,vw 0 (List.replicate m 0) x=0:=fun x=>by
  by_cases c:0≤x∧x<(m:Int)
  ·exact Q5v 0 0 m c
  ·exact Qd9 0 _ (by rw[Kv];omega)
 have hp:∀x,vw (-1) (List.replicate m (-1)) x= -1:=fun x=>by
  by_cases c:0≤x∧x<(m:Int)
  ·exact Q5v (-1) (-1) m c
  ·exact Qd9 (-1) _ (by rw[Kv];omega)
 have hR:TRow m (List.replicate m 0) (List.replicate m 0) (List.replicate m (-1)) [] 0:=⟨by simp,by simp,by simp,by simp,fun x hx=>(by cases hx),by rw[Q7a];omega⟩
 have hI:TarI (gOf R) (fun _=>False) (vw 0 (List.replicate m 0)) (vw (-1) (List.replicate m (-1))) [] 0:=by
  refine⟨fun x=> ?_,fun x=> ?_,fun x hx=>(by cases hx),fun x hx=>(by cases hx),List.Pairwise.nil,fun x hx=>hx.elim,fun x hx=> ?_,fun x hx=> ?_,fun x hx=>(by cases hx)⟩
  ·rw[hf];omega
  ·rw[hf,hp];constructor
   ·intro q;exact absurd rfl q
   ·rintro(q|q)
    ·omega
    ·cases q
  ·rw[hp]at hx;omega
  ·rw[hp]at hx;omega
 obtain⟨fo2,lo2,pa2,vis2,c4,e1,e2,e3⟩:=Qam (by omega) hlen nb hin hrl false false false m 0 _ _ _ 0 true (by omega) hR hI (fun x hx=>by omega);have e1':F6o (nb,R) (false,List.replicate m 0) (false,List.replicate m 0) (false,List.replicate m (-1)) (true,[]) 0 (m:Int) 0=_:=e1;have er:=Q7z (false,[-1]) m (by simp) (by simp) h1 hm;simp only[Qfl]at er;refine⟨false,pa2,?_,e2,e3⟩;rw[F2eE];simp only[hlen,K3,er,J0,e1'];rw[gTo,gTo,gTo,gTo,gTo,gTo,gTo,gTo]
def sB(S:List Bool):Int→Prop:=fun x=>0≤x∧S.getD x.toNat false=true
theorem Qgw(S:List Bool){k:Int}(h:0≤k∧k<(S.length:Int)):sB (S.set k.toNat true)=fun x=>sB S x∨x=k:=by
 funext x;apply propext;unfold sB;constructor
 ·rintro⟨h1,h2⟩
  by_cases e:x=k
  ·exact Or.inr e
  ·refine Or.inl ⟨h1,?_⟩;rw[K1,List.getElem?_set_ne (by omega),←K1]at h2;exact h2
 ·rintro(⟨h1,h2⟩|rfl)
  ·refine⟨h1,?_⟩
   by_cases e:x=k
   ·subst e;rw[K1,List.getElem?_set_self (by omega)];rfl
   ·rw[K1,List.getElem?_set_ne (by omega),←K1];exact h2
  ·refine⟨h.1,?_⟩;rw[K1,List.getElem?_set_self (by omega)];rfl
def Q19(S:List Bool):Nat:=S.countP fun x=> !x
theorem Q7n{S:List Bool}{k:Int}(h:0≤k∧k<(S.length:Int))(h0:S.getD k.toNat false=false):Q19 (S.set k.toNat true)+1=Q19 S:=by
 have h2:k.toNat<S.length:=by omega
 have e:S.getD k.toNat false=S[k.toNat]:=by simp[K1,h2]
 rw[e]at h0;unfold Q19
 have hp:0<S.countP fun x=> !x :=List.countP_pos_iff.2 ⟨S[k.toNat],K4 h2,by rw[h0];rfl⟩
 rw[List.countP_set h2,h0,if_pos (by rfl),if_neg (by simp)];omega
structure WalkI (g:Int→List Int) (Al:Int→Prop) (I:(Int→Prop)→(Int→Prop)→List Int→Prop):Prop where
 al:∀x,Al x→∀y∈g x,Al y
 sub:∀G s o x,I G s o→G x→s x
 enter:∀G s o k,I G s o→¬s k→Al k→I (fun x=>G x∨x=k) (fun x=>s x∨x=k) o
 leave:∀G s o k,I (fun x=>G x∨x=k) s o→¬G k→(∀y∈g k,s y)→(∀x,G x→Way g x k)→I G s (o++[k])
def Qjq(m:Nat)(R:List DLI)(nb:Bool)(Al:Int→Prop)(I:(Int→Prop)→(Int→Prop)→List Int→Prop)(N:Nat):Prop:=
 ∀(G:Int→Prop) (S:List Bool) (O:List Int) (k:Int) (bs bo:Bool),S.length=m→I G (sB S) O→0≤k∧k<(m:Int)→Al k→(∀x,G x→Way (gOf R) x k)→Q19 S≤N→O.length+Q19 S≤1000000→
  ∃S2 O2 bo2,F2f (nb,R) (bs,S) (bo,O) k=some ((nb,R),((bs,S2),(bo2,O2)))∧S2.length=m∧I G (sB S2) O2∧sB S2 k∧(∀x,sB S x→sB S2 x)∧Q19 S2≤Q19 S∧O2.length+Q19 S2≤O.length+Q19 S
theorem Qle{m:Nat}{R:List DLI}(nb:Bool){Al:Int→Prop}{I:(Int→Prop)→(Int→Prop)→List Int→Prop}{N:Nat}(ih:Qjq m R nb Al I N)(hin:∀x,∀y∈gOf R x,0≤y∧y<(m:Int))(W:WalkI (gOf R) Al I){G:Int→Prop}{k:Int}(hk:Al k)(hG:∀x,G x∨x=k→Way (gOf R) x k)(r:DLI)(hr:r.2=gOf R k)(hrl:r.2.length≤20000000)(bs:Bool)(d:Nat):
  ∀(i:Nat) (S:List Bool) (O:List Int) (bo:Bool),i+d=r.2.length→S.length=m→I (fun x=>G x∨x=k) (sB S) O→(∀y∈r.2.take i,sB S y)→Q19 S≤N→O.length+Q19 S≤1000000→
   ∃S2 O2 bo2,F9l (nb,R) (bs,S) (bo,O) k r (r.2.length:Int) (i:Int)=some ((nb,R),((bs,S2),(bo2,O2)))∧S2.length=m∧I (fun x=>G x∨x=k) (sB S2) O2∧(∀y∈r.2,sB S2 y)∧(∀x,sB S x→sB S2 x)∧Q19 S2≤Q19 S∧O2.length+Q19 S2≤O.length+Q19 S:=by
 induction d with
 |zero=>
  intro i S O bo hi hS hI hd hN hO;rw[K1d (by omega)]at hd;exact⟨S,O,bo,by rw[F9lE,gFo],hS,hI,hd,fun x h=>h,Kz _,Kz _⟩
 |succ d ihd=>
  intro i S O bo hi hS hI hd hN hO
  have hlt:i<r.2.length:=by omega
  have hwg:r.2[i]∈gOf R k:=by rw[←hr];exact K4 hlt
  obtain⟨S2,O2,bo2,e1,e2,e3,e4,e5,e6,e7⟩:=ih (fun x=>G x∨x=k) S O r.2[i] bs bo hS hI (hin k _ hwg) (W.al k hk _ hwg) (fun x hx=>(hG x hx).snoc hwg) hN hO
  obtain⟨S3,O3,bo3,g1,g2,g3,g4,g5,g6,g7⟩:=ihd (i+1) S2 O2 bo2 (by omega) e2 e3 (fun y hy=>by
   rw[K1f hlt]at hy
   rcases Kl.1 hy with hy|hy
   ·exact e5 y (hd y hy)
   ·rw[Kn]at hy;rw[hy]
    exact e4) (by omega) (by omega)
  refine⟨S3,O3,bo3,?_,g2,g3,g4,fun x hx=>g5 x (e5 x hx),by omega,by omega⟩;rw[F9lE,gTo,gTo,gTo,J2 r.2 _ i hlt,up1o i];simp only[e1,J0];rw[J1];exact g1
theorem Qhg{m:Nat}{R:List DLI}(hlen:R.length=m)(nb:Bool){Al:Int→Prop}{I:(Int→Prop)→(Int→Prop)→List Int→Prop}(hin:∀x,∀y∈gOf R x,0≤y∧y<(m:Int))(hrl:∀x,(gOf R x).length ≤20000000)(W:WalkI (gOf R) Al I)(N:Nat):Qjq m R nb Al I N:=by
 have hlim:=J4
 have seen:∀(N:Nat) (G:Int→Prop) (S:List Bool) (O:List Int) (k:Int) (bs bo:Bool),S.length=m→I G (sB S) O→0≤k∧k<(m:Int)→S.getD k.toNat false=true→
   ∃S2 O2 bo2,F2f (nb,R) (bs,S) (bo,O) k=some ((nb,R),((bs,S2),(bo2,O2)))∧S2.length=m∧I G (sB S2) O2∧sB S2 k∧(∀x,sB S x→sB S2 x)∧Q19 S2≤Q19 S∧O2.length+Q19 S2≤O.length+Q19 S:=by
  intro N G S O k bs bo hS hI hk h;refine⟨S,O,bo,?_,hS,hI,⟨hk.1,h⟩,fun x h=>h,Kz _,Kz _⟩;rw[F2fE,gT hk.1,gTs,bT h]
 induction N with
 |zero=>
  intro G S O k bs bo hS hI hk hal hG hN hO
  cases h:S.getD k.toNat false with
  |true=>exact seen 0 G S O k bs bo hS hI hk h
  |false=>
   have:=Q7n (k:=k) (by omega) h;omega
 |succ N ih=>
  intro G S O k bs bo hS hI hk hal hG hN hO
  cases h:S.getD k.toNat false with
  |true=>exact seen 0 G S O k bs bo hS hI hk h
  |false=>
   have hf:=Q7n (S:=S) (k:=k) (by omega) h
   have hns:¬sB S k:=fun q=>by
    have:=q.2;rw[h]at this;cases this
   have hng:¬G k:=fun q=>hns (W.sub _ _ _ _ hI q)
   have hI2:=W.enter G (sB S) O k hI hns hal;rw[←Qgw S (by omega)]at hI2;have hrow:(R.getD k.toNat (true,[])).2 =gOf R k:=(Qjt R hk.1).symm
   obtain⟨S2,O2,bo2,e1,e2,e3,e4,e5,e6,e7⟩:=Qle nb ih hin W hal (G:=G) (fun x hx=>by
    rcases hx with hx|hx
    ·exact hG x hx
    ·rw[hx];exact Way.here k) (R.getD k.toNat (true,[])) hrow (by rw[hrow];exact hrl k) bs (R.getD k.toNat (true,[])).2.length 0 (S.set k.toNat true) O bo (by omega) (by rw[Km];exact hS) hI2 (by simp) (by omega) (by omega)
   have e1':F9l (nb,R) (bs,S.set k.toNat true) (bo,O) k (R.getD k.toNat (true,[])) ((R.getD k.toNat (true,[])).2.length :Int) 0=_:=e1
   have hk1:sB (S.set k.toNat true) k:=by rw[Qgw S (by omega)];exact Or.inr rfl
   refine⟨S2,O2++[k],bo2&&false,?_,e2,W.leave G (sB S2) O2 k e3 hng (fun y hy=>e4 y (by rw[hrow];exact hy)) hG,e5 k hk1,fun x hx=>e5 x (by rw[Qgw S (by omega)];exact Or.inl hx),by omega,by simp;omega⟩;rw[F2fE,gT hk.1,gTs,bF h,gT hk.1,gTs,gT hk.1,gTs];simp only[e1',J0];rw[gT (by simp;omega)]
theorem Q5z(m:Nat):Q19 (List.replicate m false)=m:=by
 unfold Q19;rw[List.countP_replicate];rfl
theorem Qc0(m:Nat)(x:Int):¬sB (List.replicate m false) x:=by
 rintro⟨h1,h2⟩
 rw[K1,K21]at h2;split at h2<;>cases h2
theorem Qls{m:Nat}{R:List DLI}(hm:m≤10000)(hlen:R.length=m)(nb:Bool)(hin:∀x,∀y∈gOf R x,0≤y∧y<(m:Int))(hrl:∀x,(gOf R x).length ≤20000000)(nx:DRI)(bs:Bool)(d:Nat):
  ∀(i:Nat) (S:List Bool) (O:List Int) (bo:Bool),i+d=m→S.length=m→FinI (gOf R) (fun _=>False) (sB S) O→(∀x,0≤x∧x<(i:Int)→sB S x)→O.length+Q19 S≤m→
   ∃S2 O2 bo2,Fcg nx (nb,R) (bs,S) (bo,O) (m:Int) (i:Int)=some ((nb,R),((bs,S2),(bo2,O2)))∧FinI (gOf R) (fun _=>False) (sB S2) O2∧(∀x,0≤x∧x<(m:Int)→x∈O2)∧O2.length≤m∧S2.length=m:=by
 have W:WalkI (gOf R) (fun _=>True) (FinI (gOf R)):=⟨fun _ _ _ _=>trivial,fun G s o x h hx=>(h.see x).2 (Or.inr hx),fun G s o k h hk _=>h.enter hk,fun G s o k h h1 h2 h3=>h.leave h1 h2 h3⟩
 induction d with
 |zero=>
  intro i S O bo hi hS hI hs hO
  obtain rfl:i=m:=by omega
  refine⟨S,O,bo,by rw[FcgE,gFo],hI,fun x hx=> ?_,by omega,hS⟩
  rcases(hI.see x).1 (hs x hx)with q|q
  ·exact q
  ·exact q.elim
 |succ d ih=>
  intro i S O bo hi hS hI hs hO;obtain⟨S2,O2,bo2,e1,e2,e3,e4,e5,e6,e7⟩:=Qhg hlen nb hin hrl W (Q19 S) (fun _=>False) S O (i:Int) bs bo hS hI (by omega) trivial (fun x hx=>hx.elim) (Kz _) (by omega)
  obtain⟨S3,O3,bo3,g1,g2,g3,g4,g5⟩:=ih (i+1) S2 O2 bo2 (by omega) e2 e3 (fun x hx=>by
   by_cases q:x=(i:Int)
   ·rw[q];exact e4
   ·exact e5 x (hs x (by omega))) (by omega)
  refine⟨S3,O3,bo3,?_,g2,g3,g4,g5⟩;rw[FcgE,gTo,up1o i];simp only[e1,J0];rw[J1];exact g1
theorem Qit(nx:DRI)(w b:Dl11Walk)(out:DLI)(i:Int)(t:DLI)(ht:t.2.length≤1048576)(d:Nat):∀(j:Nat) (m:Int),j+d=t.2.length→
  F6t nx w b out i m t (t.2.length:Int) (j:Int)=some ((t.2.drop j).foldl (fun m x=>if x<m then x else m) m):=by
 induction d with
 |zero=>
  intro j m hj;rw[F6tE,gFo,K8 (by omega)];rfl
 |succ d ih=>
  intro j m hj
  have hlt:j<t.2.length:=by omega
  rw[F6tE,gTo,gTo,gTo,J2 t.2 _ j hlt,up1o j,K2 hlt,K17]
  by_cases c:t.2[j]<m
  ·rw[gT c,if_pos c,J1,ih (j+1) _ (by omega)]
  ·rw[gF c,if_neg c,J1,ih (j+1) _ (by omega)]
theorem Qm3(nx:DRI)(w b:Dl11Walk)(i least:Int)(bo:Bool)(m:Nat)(t:DLI)(ht:t.2.length≤1048576)(hin:∀x∈t.2,0≤x∧x<(m:Int))(d:Nat):∀(j:Nat) (out:List Int),j+d=t.2.length→out.length=m→
  ∃out2:List Int,out2.length=m∧(∀x∈t.2.drop j,vw 0 out2 x=least)∧(∀x,x∉t.2.drop j→vw 0 out2 x=vw 0 out x)∧Fae nx w b (bo,out) i least t (t.2.length:Int) (j:Int)=some (bo,out2):=by
 induction d with
 |zero=>
  intro j out hj ho;refine⟨out,ho,fun x hx=> ?_,fun x _=>rfl,by rw[FaeE,gFo]⟩;rw[K8 (by omega)]at hx;cases hx
 |succ d ih=>
  intro j out hj ho
  have hlt:j<t.2.length:=by omega
  have hx:=hin _ (K4 hlt);obtain⟨out2,h1,h2,h3,h4⟩:=ih (j+1) (out.set (toNat t.2[j]) least) (by omega) (by rw[Km];exact ho);refine⟨out2,h1,fun x hx2=> ?_,fun x hx2=> ?_,?_⟩
  ·rw[K2 hlt]at hx2
   by_cases c:x∈t.2.drop (j+1)
   ·exact h2 x c
   ·rw[h3 x c,Q5w 0 out least (by omega)]
    rcases Kd.1 hx2 with rfl|hx2
    ·exact Qo _ _ _
    ·exact absurd hx2 c
  ·rw[K2 hlt]at hx2
   have n1:¬x=t.2[j]:=fun q=>hx2 (by rw[q];exact Kk)
   have n2:x∉t.2.drop (j+1):=fun q=>hx2 (K9 _ q)
   rw[h3 x n2,Q5w 0 out least (by omega),Qp _ _ n1]
  ·rw[FaeE,gTo,gTo,gTo,J2 t.2 _ j hlt,gT hx.1,gTs,up1o j,J1];exact h4
theorem Qlt{m:Nat}{R RT:List DLI}(hm:m≤10000)(hlen:R.length=m)(hlenT:RT.length=m)(nbT:Bool)(hin:∀x,∀y∈gOf R x,0≤y∧y<(m:Int))(hinT:∀x,∀y∈gOf RT x,0≤y∧y<(m:Int))(hrlT:∀x,(gOf RT x).length ≤20000000)(hr:∀x y,0≤x∧x<(m:Int)→(y∈gOf RT x↔x∈gOf R y))(nb:Bool)
  (w0:DRI)(w1:Bool×List Bool)(bO:Bool)(O:List Int){S0:List Bool}(hF:FinI (gOf R) (fun _=>False) (sB S0) O)(hall:∀x,0≤x∧x<(m:Int)→x∈O)(hO:∀x∈O,0≤x∧x<(m:Int))(hOl:O.length≤m)(bs bo:Bool)(n:Nat):
  ∀(S:List Bool) (out q:List Int) (bq:Bool),n≤O.length→S.length=m→out.length=m→(∀x,0≤x∧x<(m:Int)→(sB S x↔∃b∈O.drop n,Scc (gOf R) x b))→(∀x,0≤x∧x<(m:Int)→sB S x→IsL (gOf R) x (vw 0 out x))→
   ∃(P:List Int) (z:Dl11Walk),Fb7 (nb,R) (w0,(w1,(bO,O))) (nbT,RT) (bs,S) (bq,q) (bo,out) ((n:Int)-1)=some ((bo,P),z)∧P.length=m∧∀x,0≤x∧x<(m:Int)→IsL (gOf R) x (vw 0 P x):=by
 have hlim:=J4
 have okc:∀x,(0≤x∧x<(m:Int))→∀y∈gOf R x,0≤y∧y<(m:Int):=fun x _=>hin x
 have okr:∀x,(0≤x∧x<(m:Int))→∀y∈gOf RT x,0≤y∧y<(m:Int):=fun x _=>hinT x
 induction n with
 |zero=>
  intro S out q bq hn hS hout hs hv;refine⟨out,((nbT,RT),((bs,S),(bq,q))),by rw[Fb7E,gFo],hout,fun x hx=>hv x hx ?_⟩;rw[hs x hx,Kg];exact⟨x,hall x hx,Scc.refl _ _⟩
 |succ n ih=>
  intro S out q bq hn hS hout hs hv
  have hlt:n<O.length:=by omega
  have hz:=hO _ (K4 hlt)
  have ho:O=O.take n++O[n]::O.drop (n+1):=by rw[←K2 hlt,List.take_append_drop]
  have ek:((n+1:Nat):Int)-1=(n:Int):=by omega
  by_cases c:sB S O[n]
  ·have e1:F2f (nbT,RT) (bs,S) (true,[]) O[n]=some ((nbT,RT),((bs,S),(true,[]))):=by
    rw[F2fE,gT hz.1,gTs,bT c.2]
   have e4:F6t (nb,R) (w0,(w1,(bO,O))) ((nbT,RT),((bs,S),(true,[]))) (bo,out) (n:Int) (m:Int) (true,[]) (([]:List Int).length :Int) 0=some (m:Int):=by
    rw[F6tE,gF (by simp)]
   have e6:Fae (nb,R) (w0,(w1,(bO,O))) ((nbT,RT),((bs,S),(true,[]))) (bo,out) (n:Int) (m:Int) (true,[]) (([]:List Int).length :Int) 0=some (bo,out):=by
    rw[FaeE,gF (by simp)]
   obtain⟨b,hb1,hb2⟩:=(hs _ hz).1 c
   obtain⟨P,z,g1,g2,g3⟩:=ih S out [] true (by omega) hS hout (fun x hx=>by
    rw[K2 hlt,hs x hx];constructor
    ·rintro⟨b2,q1,q2⟩
     exact⟨b2,K9 _ q1,q2⟩
    ·rintro⟨b2,q1,q2⟩
     rcases Kd.1 q1 with rfl|q1
     ·exact⟨b,hb1,q2.trans hb2⟩
     ·exact⟨b2,q1,q2⟩) hv
   refine⟨P,z,?_,g2,g3⟩;rw[Fb7E,ek,gTo,gTo,gTs];simp only[K3,Q4a hlt,e1,J0,hlen,e4,e6];rw[wr (by omega),J1];exact g1
  have W:WalkI (gOf RT) (fun x=>Way (gOf RT) O[n] x) (ColI (gOf RT) O[n] (sB S)):=⟨fun x h y hy=>h.snoc hy,fun G s o x h hx=>(h.see x).2 (Or.inr (Or.inr hx)),fun G s o k h hk ha=>h.enter hk ha,fun G s o k h _ h2 _=>h.leave h2⟩;have hC0:ColI (gOf RT) O[n] (sB S) (fun _=>False) (sB S) []:=⟨fun x=>⟨fun h=>Or.inl h,fun h=>h.elim id (fun h=>h.elim (fun h=>by cases h) (fun h=>h.elim))⟩,fun x h=>h.elim (fun h=>by cases h) (fun h=>h.elim),fun x hx=>by cases hx⟩
  have hfl:Q19 S≤m:=by rw[←hS];exact List.countP_le_length
  obtain⟨S2,Q,bQ,e1,e2,e3,e4,e5,e6,e7⟩:=Qhg hlenT nbT hinT hrlT W (Q19 S) (fun _=>False) S [] O[n] bs true hS hC0 hz (Way.here _) (fun x hx=>hx.elim) (Kz _) (by simp;omega)
  have hQin:∀x∈Q,0≤x∧x<(m:Int):=fun x hx=>Way.closed okr (e3.new x (Or.inl hx)).2 hz
  have hQl:Q.length≤1048576:=by
   simp only[K1m,K1o]at e7;omega
  have hlast:=Qit (nb,R) (w0,(w1,(bO,O))) ((nbT,RT),((bs,S2),(bQ,Q))) (bo,out) (n:Int) (bQ,Q) hQl Q.length 0 (m:Int) (by simp);obtain⟨out2,p1,p2,p3,p4⟩:=Qm3 (nb,R) (w0,(w1,(bO,O))) ((nbT,RT),((bs,S2),(bQ,Q))) (n:Int) (Q.foldl (fun m x=>if x<m then x else m) (m:Int)) bo m (bQ,Q) hQl hQin Q.length 0 out (by simp) hout;rw[Kg]at hlast p2 p3;have hlast':F6t (nb,R) (w0,(w1,(bO,O))) ((nbT,RT),((bs,S2),(bQ,Q))) (bo,out) (n:Int) (m:Int) (bQ,Q) (Q.length:Int) 0=_:=hlast;have p4':Fae (nb,R) (w0,(w1,(bO,O))) ((nbT,RT),((bs,S2),(bQ,Q))) (bo,out) (n:Int) (Q.foldl (fun m x=>if x<m then x else m) (m:Int)) (bQ,Q) (Q.length:Int) 0=_:=p4
  have hzq:O[n]∈Q:=by
   rcases(e3.see O[n]).1 e4 with k|k|k
   ·exact absurd k c
   ·exact k
   ·exact k.elim
  have hscc:∀x,0≤x∧x<(m:Int)→(x∈Q↔Scc (gOf R) O[n] x):=fun x hx=>Qkg hF hall okc okr (fun x y hx=>hr x y hx) ho hz (fun x hx=>hs x hx) e3 c hzq x hx
  have hs2:∀x,0≤x∧x<(m:Int)→(sB S2 x↔∃b∈O.drop n,Scc (gOf R) x b):=by
   intro x hx;rw[K2 hlt];constructor
   ·intro h
    rcases(e3.see x).1 h with k|k|k
    ·obtain⟨b2,q1,q2⟩:=(hs x hx).1 k;exact⟨b2,K9 _ q1,q2⟩
    ·exact⟨O[n],Kk,((hscc x hx).1 k).symm⟩
    ·exact k.elim
   ·rintro⟨b2,q1,q2⟩
    rcases Kd.1 q1 with rfl|q1
    ·exact(e3.see x).2 (Or.inr (Or.inl ((hscc x hx).2 q2.symm)))
    ·exact e5 x ((hs x hx).2 ⟨b2,q1,q2⟩)
  obtain⟨f1,f2,f3⟩:=Q9r Q (m:Int)
  have hleast:Q.foldl (fun m x=>if x<m then x else m) (m:Int)∈Q:=by
   rcases f1 with k|k
   ·have:=f3 _ hzq;omega
   ·exact k
  have hv2:∀x,0≤x∧x<(m:Int)→sB S2 x→IsL (gOf R) x (vw 0 out2 x):=by
   intro x hx h
   by_cases k:x∈Q
   ·rw[p2 x k];refine⟨((hscc x hx).1 k).symm.trans ((hscc _ (hQin _ hleast)).1 hleast),fun y hy=>f3 y ?_⟩;exact(hscc y (Way.closed okc hy.1 hx)).2 (((hscc x hx).1 k).trans hy)
   ·rw[p3 x k]
    rcases(e3.see x).1 h with k2|k2|k2
    ·exact hv x hx k2
    ·exact absurd k2 k
    ·exact k2.elim
  obtain⟨P,z,g1,g2,g3⟩:=ih S2 out2 Q bQ (by omega) e2 p1 hs2 hv2;refine⟨P,z,?_,g2,g3⟩;rw[Fb7E,ek,gTo,gTo,gTs];simp only[K3,Q4a hlt,e1,J0,hlen,hlast',p4'];rw[wr (by omega),J1];exact g1
theorem Q20{R:List DLI}{G:List (List Int)}(h:R.map Prod.snd=G)(x:Int):gOf R x=if 0≤x then G.getD x.toNat []else[]:=by
 unfold gOf;subst h
 by_cases c:0≤x
 ·rw[if_pos c,if_pos c]
  by_cases q:x.toNat<R.length
  ·simp[K1,q]
  ·simp[K1,K1p (Nat.le_of_not_lt q)]
 ·rw[if_neg c,if_neg c]
theorem Q5n{G:List (List Int)}{k:Nat}{y:Int}(h:y∈G.getD k []):∃l∈G,y∈l∧k<G.length:=by
 by_cases q:k<G.length
 ·have e:G.getD k []=G[k]:=by simp[K1,q]
  rw[e]at h;exact⟨_,K4 q,h,q⟩
 ·rw[K1,K1p (Nat.le_of_not_lt q)]at h;cases h
theorem Qe7{m:Nat}{G:List (List Int)}(h1:1≤m)(hG:Gr m G)(hs:∀l∈G,l.length≤2000)(nb nb2:Bool){R R2:List DLI}(hR:R.map Prod.snd=G)(hR2:R2.map Prod.snd=G):
  ∃b b2 P,F2e (nb,R)=some (b,P)∧Fh (nb2,R2)=some (b2,P)∧P.length=m∧∀x,0≤x∧x<(m:Int)→IsL (gOf R) x (P.getD x.toNat 0):=by
 have hlim:=J4;have hsm:=hG.small
 have hlen:R.length=m:=by rw[←hG.len,←hR,Kh]
 have hlen2:R2.length=m:=by rw[←hG.len,←hR2,Kh]
 have eg:gOf R2=gOf R:=by funext x;rw[Q20 hR2,Q20 hR]
 have hin:∀x,∀y∈gOf R x,0≤y∧y<(m:Int):=by
  intro x y hy;rw[Q20 hR]at hy;split at hy
  ·obtain⟨l,hl,hyl,_⟩:=Q5n hy;exact hG.inn l hl y hyl
  ·cases hy
 have hrl:∀x,(gOf R x).length ≤20000000:=by
  intro x;rw[Q20 hR];split
  ·by_cases q:x.toNat<G.length
   ·have e:G.getD x.toNat []=G[x.toNat]:=by simp[K1,q]
    rw[e];have:=hs _ (K4 q);omega
   ·rw[K1,K1p (Nat.le_of_not_lt q)];simp
  ·simp
 obtain⟨b,P,e1,e2,e3⟩:=Qh4 h1 hsm hlen nb hin hrl;obtain⟨Q,q1,_,q3⟩:=Q4i hG hs nb2 hR2
 have hg:∀l∈G,∀w∈l,0≤w∧w<(G.length:Int):=by rw[hG.len];exact hG.inn
 have hTl:=Q1n G hg G.length (Kz _)
 have hlenT:Q.length=m:=by
  have:=congrArg List.length q1;rw[Kh]at this;rw[this,←hG.len];exact hTl.1
 have hmT:∀x y,0≤x∧x<(m:Int)→(y∈gOf Q x↔x∈gOf R2 y):=by
  intro x y hx;rw[Q20 q1,if_pos hx.1,Q2i hg,Q20 hR2];have ex:((x.toNat:Nat):Int)=x:=K1t hx.1;constructor
  ·rintro⟨v,hv1,rfl,hv3⟩
   rw[if_pos (by omega),K3,←ex];exact hv3
  ·intro h;split at h
   ·rename_i hy;obtain⟨l,_,_,hk⟩:=Q5n h;exact⟨y.toNat,hk,(K1t hy).symm,by rw[ex];exact h⟩
   ·cases h
 have hinT:∀x,∀y∈gOf Q x,0≤y∧y<(m:Int):=by
  intro x y hy
  by_cases hx:0≤x
  ·rw[Q20 q1,if_pos hx,Q2i hg]at hy;obtain⟨v,hv1,rfl,_⟩:=hy;rw[←hG.len];omega
  ·rw[Q20 q1,if_neg hx]at hy;cases hy
 have hgT:=Q64 hG hs
 have hrlT:∀x,(gOf Q x).length ≤20000000:=by
  intro x;rw[Q20 q1];split
  ·by_cases q:x.toNat<(Qn G).length
   ·have e:(Qn G).getD x.toNat []=(Qn G)[x.toNat]:=by simp[K1,q]
    rw[e];exact hgT.short _ (K4 q)
   ·rw[K1,K1p (Nat.le_of_not_lt q)];simp
  ·simp
 have hin2:=hin;rw[←eg]at hin2;have hrl2:=hrl;rw[←eg]at hrl2;have hF0:FinI (gOf R2) (fun _=>False) (sB (List.replicate m false)) []:=⟨fun x=>⟨fun h=>absurd h (Qc0 m x),fun h=>h.elim (fun h=>(by cases h)) (fun h=>h.elim)⟩,fun x hx=>(by cases hx),fun x hx=>(by cases hx),fun A z B e=>(by cases A<;>cases e),List.nodup_nil⟩;obtain⟨S2,O2,bo2,k1,k2,k3,k4,k5⟩:=Qls hsm hlen2 nb2 hin2 hrl2 (nb2,R2) false m 0 (List.replicate m false) [] true (by omega) (by simp) hF0 (fun x hx=>by omega) (by rw[Q5z];simp);have k1':Fcg (nb2,R2) (nb2,R2) (false,List.replicate m false) (true,[]) (m:Int) 0=_:=k1
 have hO:∀x∈O2,0≤x∧x<(m:Int):=fun x hx=>by
  obtain⟨a,b⟩:=(k2.see x).2 (Or.inl hx);refine⟨a,?_⟩
  rcases K2b x (m:Int)with q|q
  ·exact q
  ·rw[K1,K1p (by omega)]at b;cases b
 obtain⟨P2,z,j1,j2,j3⟩:=Qlt hsm hlen2 hlenT false hin2 hinT hrlT hmT nb2 (nb2,R2) (false,S2) bo2 O2 k2 k3 hO k4 false false O2.length (List.replicate m false) (List.replicate m 0) [] true (Kz _) (by simp) (by simp) (fun x hx=>by
  rw[List.drop_length]
  exact⟨fun h=>absurd h (Qc0 m x),fun⟨b,hb,_⟩=>by cases hb⟩) (fun x hx h=>absurd h (Qc0 m x))
 have ePP:P2=P:=by
  apply List.ext_getElem (by rw[j2,e2]);intro i hi1 hi2;have a:=e3 (i:Int) (by omega);have b:=j3 (i:Int) (by omega);rw[eg]at b;have c:=a.one b;rw[Qld (-1) 0 P (by omega),Q55 0 P2 (by omega),K3]at c;rw[Q4a hi2,Q4a hi1]at c;exact c.symm
 refine⟨b,false,P,e1,?_,e2,fun x hx=>by rw[←Qld (-1) 0 P (by omega)];exact e3 x hx⟩;have ew:i64.wrap ((O2.length:Int)-1)=(O2.length:Int)-1:=wr (by omega);rw[FhE];simp only[hlen2,K3,k1',J0,q3,ew,j1];rw[gTo,gTo,gTo,gTo,gTo,gTo,gTo,gTo,gTo,gTo,gTo,gTo,ePP]
def gG(G:List (List Int)):Int→List Int:=fun x=>if 0≤x then G.getD x.toNat []else[]
theorem Qb8(G:List (List Int)){x:Int}(h:0≤x):gG G x=G.getD x.toNat []:=if_pos h
structure Step1 (k:Nat) (s q:List Int) (s2 q2:List Int):Prop where
 len:s2.length=s.length
 same:∀v,v<s.length→0≤s.getD v 0→s2.getD v 0=s.getD v 0
 new:∀v,v<s.length→0≤s2.getD v 0→0≤s.getD v 0∨((v:Int)∈q2∧1≤s2.getD v 0)
 que:∀w∈q,w∈q2
theorem Step1.refl(k:Nat)(s q:List Int):Step1 k s q s q:=⟨rfl,fun _ _ _=>rfl,fun _ _ h=>Or.inl h,fun _ h=>h⟩
theorem Step1.trans{k:Nat}{s q s2 q2 s3 q3:List Int}(h:Step1 k s q s2 q2)(h2:Step1 k s2 q2 s3 q3):Step1 k s q s3 q3:=by
 refine⟨by rw[h2.len,h.len],fun v hv h0=> ?_,fun v hv h0=> ?_,fun w hw=>h2.que w (h.que w hw)⟩
 ·rw[h2.same v (by rw[h.len];exact hv) (by rw[h.same v hv h0];exact h0),h.same v hv h0]
 ·rcases h2.new v (by rw[h.len];exact hv) h0 with a|⟨a,b⟩
  ·rcases h.new v hv a with c|⟨c,d⟩
   ·exact Or.inl c
   ·refine Or.inr ⟨h2.que _ c,?_⟩;rw[h2.same v (by rw[h.len];exact hv) a];exact d
  ·exact Or.inr ⟨a,b⟩
theorem Qjg{k:Nat}{s q:List Int}(hk:k<s.length)(hk0:0≤s.getD k 0){w:Int}(hw:0≤w∧w<(s.length:Int)):Step1 k s q (Qw k (s,q) w).1 (Qw k (s,q) w).2 ∧0≤(Qw k (s,q) w).1.getD w.toNat 0:=by
 have hwl:w.toNat<s.length:=by omega
 unfold Qw
 by_cases c:s.getD w.toNat 0<0
 ·simp only[if_pos c];refine⟨⟨by rw[Km],fun v hv h0=> ?_,fun v hv h0=> ?_,fun x hx=>Ke _ hx⟩,?_⟩
  ·rw[Qh s _ _ _ hwl];split
   ·rename_i e;subst e;omega
   ·rfl
  ·rw[Qh s _ _ _ hwl]at h0⊢;split
   ·rename_i e;refine Or.inr ⟨?_,by omega⟩
    have:(v:Int)=w:=by omega
    rw[this];simp
   ·rename_i e;rw[if_neg e]at h0;exact Or.inl h0
  ·rw[Qh s _ _ _ hwl,if_pos rfl];omega
 ·simp only[if_neg c];exact⟨Step1.refl k s q,by omega⟩
theorem Qjf{k:Nat}(ws:List Int):∀{s q:List Int},k<s.length→0≤s.getD k 0→(∀w∈ws,0≤w∧w<(s.length:Int))→Step1 k s q (ws.foldl (Qw k) (s,q)).1 (ws.foldl (Qw k) (s,q)).2 ∧∀w∈ws,0≤(ws.foldl (Qw k) (s,q)).1.getD w.toNat 0:=by
 induction ws with
 |nil=>intro s q _ _ _;exact⟨Step1.refl k s q,fun w hw=>by cases hw⟩
 |cons a ws ih=>
  intro s q hk hk0 hw;obtain⟨h1,h2⟩:=Qjg (q:=q) hk hk0 (hw a Kk);have hl:=h1.len;obtain⟨h3,h4⟩:=ih (s:=(Qw k (s,q) a).1) (q:=(Qw k (s,q) a).2) (by omega) (by rw[h1.same k hk hk0];exact hk0) (fun w hw2=>by rw[hl];exact hw w (K9 _ hw2));rw[K17];refine⟨h1.trans h3,fun w hw2=> ?_⟩
  rcases Kd.1 hw2 with rfl|hw2
  ·have ha:=hw w Kk;rw[h3.same w.toNat (by omega) h2];exact h2
  ·exact h4 w hw2
def Qhn(G:List (List Int))(s q:List Int):Prop:=∀v:Nat,v<s.length→0≤s.getD v 0→(v:Int)∈q∨∀w∈G.getD v [],0≤s.getD w.toNat 0
def Zero(l s:List Int):Prop:=∀v:Nat,v<s.length→s.getD v 0=0→(v:Int)∈l
theorem Qez{m:Nat}{G:List (List Int)}(hG:Gr m G)(l:List Int)(n:Nat):∀(s q:List Int),BInv m s q→Qhn G s q→Zero l s→2*negs s+q.length≤n→Qhn G (bfsL G n s q) []∧Zero l (bfsL G n s q)∧(bfsL G n s q).length =m∧∀v,v<m→0≤s.getD v 0→(bfsL G n s q).getD v 0=s.getD v 0:=by
 induction n with
 |zero=>
  intro s q hI hS hZ hn;have:q=[]:=List.length_eq_zero_iff.1 (by omega);subst this;exact⟨hS,hZ,hI.len,fun _ _ _=>rfl⟩
 |succ n ih=>
  intro s q hI hS hZ hn
  cases q with
  |nil=>exact⟨hS,hZ,hI.len,fun _ _ _=>rfl⟩
  |cons k q=>
   obtain⟨hk1,hk2⟩:=hI.que k Kk;have hlen:=hI.len;have hI':BInv m s q:=⟨hI.len,hI.low,hI.high,fun w hw=>hI.que w (K9 _ hw)⟩
   have hkG:k.toNat<G.length:=by rw[hG.len];omega
   have e:G.getD k.toNat []∈G:=by
    have e:G.getD k.toNat []=G[k.toNat]:=by simp[K1,hkG]
    rw[e];exact K4 _
   have hin:=hG.inn _ e;obtain⟨v1,v2⟩:=Q5i (show k.toNat<m by omega) (G.getD k.toNat []) hI' hk2 hin;obtain⟨t1,t2⟩:=Qjf (q:=q) (G.getD k.toNat []) (k:=k.toNat) (s:=s) (by omega) hk2 (by rw[hlen];exact hin);have hl2:=t1.len;simp only[Kq]at hn
   obtain⟨a1,a2,a3,a4⟩:=ih _ _ v1 (fun v hv h0=>by
    rcases t1.new v (by omega) h0 with c|⟨c,_⟩
    ·rcases hS v (by omega) c with d|d
     ·rcases Kd.1 d with d|d
      ·right
       have ev:k.toNat=v:=by omega
       rw[←ev];exact t2
      ·exact Or.inl (t1.que _ d)
     ·right;intro w hw
      have hvG:v<G.length:=by rw[hG.len];omega
      have e2:G.getD v []∈G:=by
       have e:G.getD v []=G[v]:=by simp[K1,hvG]
       rw[e];exact K4 _
      have hwi:=hG.inn _ e2 w hw;rw[t1.same w.toNat (by omega) (d w hw)];exact d w hw
    ·exact Or.inl c) (fun v hv h0=>by
    rcases t1.new v (by omega) (by omega)with c|⟨_,c⟩
    ·exact hZ v (by omega) (by rw[←t1.same v (by omega) c];exact h0)
    ·omega) (by omega)
   refine⟨a1,a2,a3,fun v hv h0=> ?_⟩;have:=t1.same v (by omega) h0;show(bfsL G n _ _).getD v 0=_;rw[a4 v hv (by rw[this];exact h0),this]
theorem Qb6(m:Nat)(l:List Int)(hl:∀w∈l,0≤w∧w<(m:Int))(v:Nat)(hv:v<m):(far0 m l).getD v 0=if(v:Int)∈l then 0 else -1:=by
 have key:∀(l s:List Int),(∀w∈l,0≤w∧w<(m:Int))→s.length=m→(l.foldl (fun s w=>s.set w.toNat 0) s).getD v 0=if(v:Int)∈l then 0 else s.getD v 0:=by
  intro l
  induction l with
  |nil=>intro s _ _;rfl
  |cons a l ih=>
   intro s hw hs;have ha:=hw a Kk;rw[K17,ih _ (fun w h=>hw w (K9 _ h)) (by rw[Km];exact hs),Qh s _ _ _ (by omega)]
   by_cases c:(v:Int)∈l
   ·rw[if_pos c,if_pos (K9 _ c)]
   ·rw[if_neg c]
    by_cases e:a.toNat=v
    ·rw[if_pos e,if_pos (by have:(v:Int)=a:=(by omega);rw[this];exact Kk)]
    ·rw[if_neg e,if_neg (fun q=>by
      rcases Kd.1 q with q|q
      ·omega
      ·exact c q)]
 have:=key l (List.replicate m (-1)) hl (by simp);rw[far0,this];congr 1;simp[K1,hv]
theorem Q5c{m:Nat}{G:List (List Int)}(hG:Gr m G)(l:List Int)(hw:∀w∈l,0≤w∧w<(m:Int)):(farL G l).length =m∧Qhn G (farL G l) []∧Zero l (farL G l)∧(∀w∈l,(farL G l).getD w.toNat 0=0)∧Pred G (farL G l):=by
 have hI:=Q4t m l hw;have hn:=Q6r (far0 m l);have hlen:=hI.len
 have hS:Qhn G (far0 m l) l:=fun v hv h0=>by
  rw[Qb6 m l hw v (by omega)]at h0;split at h0
  ·rename_i h;exact Or.inl h
  ·omega
 have hZ:Zero l (far0 m l):=fun v hv h0=>by
  rw[Qb6 m l hw v (by omega)]at h0;split at h0
  ·rename_i h;exact h
  ·omega
 have hb:=Qez hG l (2*m+l.length) (far0 m l) l hI hS hZ (by omega);have hP:=Q9p hG l hw;rw[farL,hG.len]at hP⊢;obtain⟨b1,b2,b3,b4⟩:=hb;refine⟨b3,b1,b2,fun w hwl=> ?_,hP⟩;have hwi:=hw w hwl
 have e:(far0 m l).getD w.toNat 0=0:=by
  rw[Qb6 m l hw w.toNat (by omega),if_pos (by rw[K1t hwi.1];exact hwl)]
 rw[b4 w.toNat (by omega) (by omega),e]
theorem Qfn{m:Nat}{G:List (List Int)}(hG:Gr m G):∀x,∀y∈gG G x,0≤y∧y<(m:Int):=by
 intro x y hy;unfold gG at hy;split at hy
 ·by_cases q:x.toNat<G.length
  ·have e:G.getD x.toNat []=G[x.toNat]:=by simp[K1,q]
   rw[e]at hy;exact hG.inn _ (K4 q) y hy
  ·rw[K1,K1p (Nat.le_of_not_lt q)]at hy;cases hy
 ·cases hy
theorem Q8l{m:Nat}{G:List (List Int)}(hG:Gr m G)(l:List Int)(hw:∀w∈l,0≤w∧w<(m:Int))(v:Int)(hv:0≤v∧v<(m:Int)):0≤(farL G l).getD v.toNat 0↔∃u∈l,Way (gG G) u v:=by
 obtain⟨h1,h2,h3,h4,h5⟩:=Q5c hG l hw;constructor
 ·have key:∀(n:Nat) (v:Nat),v<m→(farL G l).getD v 0=(n:Int)→∃u∈l,Way (gG G) u (v:Int):=by
   intro n
   induction n with
   |zero=>
    intro v hv h0;exact⟨(v:Int),h3 v (by omega) h0,Way.here _⟩
   |succ n ih=>
    intro v hv h0;obtain⟨u,u1,u2,u3⟩:=h5 v (by omega) (by omega);obtain⟨a,a1,a2⟩:=ih u (by omega) (by omega);exact⟨a,a1,a2.snoc (by rw[Qb8 G (by omega),K3];exact u2)⟩
  intro h0;obtain⟨n,hn⟩:=Kc h0;have:=key n v.toNat (by omega) hn;rwa[K1t hv.1]at this
 ·rintro⟨u,hu,huv⟩
  have hui:=hw u hu
  have key:(0≤v∧v<(m:Int))∧0≤(farL G l).getD v.toNat 0:=Way.closed (P:=fun x=>(0≤x∧x<(m:Int))∧0≤(farL G l).getD x.toNat 0) (fun x hx y hy=>by
   have hyi:=Qfn hG x y hy;refine⟨hyi,?_⟩
   rcases h2 x.toNat (by omega) hx.2 with c|c
   ·cases c
   ·rw[Qb8 G hx.1.1]at hy
    exact c y hy) huv ⟨hui,by rw[h4 u hu];omega⟩
  exact key.2
theorem Qkk{m:Nat}{G:List (List Int)}(hG:Gr m G):∀x y,0≤x∧x<(m:Int)→(y∈gG (Qn G) x↔x∈gG G y):=by
 have hg:∀l∈G,∀w∈l,0≤w∧w<(G.length:Int):=by rw[hG.len];exact hG.inn
 intro x y hx;rw[Qb8 _ hx.1,Q2i hg];have ex:((x.toNat:Nat):Int)=x:=K1t hx.1;unfold gG;constructor
 ·rintro⟨v,hv1,rfl,hv3⟩
  rw[if_pos (by omega),K3,←ex];exact hv3
 ·intro h;split at h
  ·rename_i hy
   by_cases q:y.toNat<G.length
   ·exact⟨y.toNat,q,(K1t hy).symm,by rw[ex];exact h⟩
   ·rw[K1,K1p (Nat.le_of_not_lt q)]at h;cases h
  ·cases h
theorem Qjn{m:Nat}{G:List (List Int)}(hG:Gr m G){a b:Int}(hb:0≤b∧b<(m:Int)):Way (gG G) a b→Way (gG (Qn G)) b a:=by
 intro h
 induction h with
 |here a=>exact Way.here a
 |step e _ ih=>exact(ih hb).snoc ((Qkk hG _ _ (Qfn hG _ _ e)).2 e)
theorem Q48(s:List Int)(l:List Int)(hl:∀x∈l,0≤x)(x:Int)(hx:x∈l)(h0:0≤s.getD x.toNat 0):0≤Q1g s l∧s.getD (Q1g s l).toNat 0≤s.getD x.toNat 0:=by
 have key:∀(l:List Int) (b:Int),(∀x∈l,0≤x)→((0≤b∧s.getD b.toNat 0≤s.getD x.toNat 0)∨x∈l)→0≤l.foldl (Q15 s) b∧s.getD (l.foldl (Q15 s) b).toNat 0≤s.getD x.toNat 0:=by
  intro l
  induction l with
  |nil=>intro b _ h;exact h.resolve_right (by simp)
  |cons a l ih=>
   intro b hl h;rw[K17];have ha:=hl a Kk;refine ih _ (fun y hy=>hl y (K9 _ hy)) ?_;unfold Q15
   rcases h with⟨b0,b1⟩|h
   ·left
    by_cases c:s.getD a.toNat 0≥0
    ·rw[if_pos c,if_neg (by omega)]
     by_cases c2:s.getD a.toNat 0<s.getD b.toNat 0
     ·rw[if_pos c2];exact⟨ha,by omega⟩
     ·rw[if_neg c2];exact⟨b0,b1⟩
    ·rw[if_neg c];exact⟨b0,b1⟩
   ·rcases Kd.1 h with rfl|h
    ·left;rw[if_pos (show s.getD x.toNat 0≥0 from h0)]
     by_cases c:b<0
     ·rw[if_pos c];exact⟨ha,Int.le_refl _⟩
     ·rw[if_neg c]
      by_cases c2:s.getD x.toNat 0<s.getD b.toNat 0
      ·rw[if_pos c2];exact⟨ha,Int.le_refl _⟩
      ·rw[if_neg c2];exact⟨by omega,by omega⟩
    ·exact Or.inr h
 exact key l (-1) hl (Or.inr hx)
theorem Q58(s:List Int)(l:List Int):Q1g s l<0∨(Q1g s l∈l∧0≤s.getD (Q1g s l).toNat 0):=by
 have key:∀(l m:List Int) (b:Int),(b<0∨(b∈m∧0≤s.getD b.toNat 0))→(l.foldl (Q15 s) b<0∨(l.foldl (Q15 s) b∈m++l∧0≤s.getD (l.foldl (Q15 s) b).toNat 0)):=by
  intro l
  induction l with
  |nil=>intro m b h;rw[K1l];exact h
  |cons a l ih=>
   intro m b h
   have:=ih (m++[a]) (Q15 s b a) (by
    unfold Q15
    by_cases c:s.getD a.toNat 0≥0
    ·rw[if_pos c]
     by_cases c2:b<0
     ·rw[if_pos c2];exact Or.inr ⟨by simp,c⟩
     ·rw[if_neg c2]
      by_cases c3:s.getD a.toNat 0<s.getD b.toNat 0
      ·rw[if_pos c3];exact Or.inr ⟨by simp,c⟩
      ·rw[if_neg c3];exact h.imp id fun q=>⟨Ke _ q.1,q.2⟩
    ·rw[if_neg c];exact h.imp id fun q=>⟨Ke _ q.1,q.2⟩)
   rw[Kj]at this;exact this
 exact key l [] (-1) (Or.inl (by decide))
theorem Qiy{G:List (List Int)}{s:List Int}{v:Int}(h:∃u∈G.getD v.toNat [],s.getD u.toNat 0=s.getD v.toNat 0-1):Q2j G s v∈G.getD v.toNat []∧s.getD (Q2j G s v).toNat 0=s.getD v.toNat 0-1:=by
 obtain⟨u,u1,u2⟩:=h;unfold Q2j
 cases q:(G.getD v.toNat []).find? fun w=>s.getD w.toNat 0==s.getD v.toNat 0-1 with
 |none=>
  have:=List.find?_eq_none.1 q u u1;exact absurd (beq_iff_eq.2 u2) this
 |some w=>exact⟨K23 q,by simpa using List.find?_some q⟩
theorem Qjm{m:Nat}{G:List (List Int)}(hG:Gr m G)(s:List Int)(hP:∀v:Nat,v<m→0<s.getD v 0→∃u∈G.getD v [],s.getD u.toNat 0=s.getD v 0-1)(n:Nat):∀(k:Nat) (v:Int) (out:List Int),(0≤v∧v<(m:Int))→s.getD v.toNat 0=(n:Int)→n≤k→
  ∃t,wayL G s k v out=out++t∧t.length=n∧(∀i,i<n→(v::t).getD (i+1) 0∈G.getD ((v::t).getD i 0).toNat [])∧∀i,i≤n→(0≤(v::t).getD i 0∧(v::t).getD i 0<(m:Int))∧s.getD ((v::t).getD i 0).toNat 0=(n:Int)-i:=by
 induction n with
 |zero=>
  intro k v out hv h0 _;refine⟨[],?_,rfl,fun i hi=>by omega,fun i hi=> ?_⟩
  ·cases k with
   |zero=>simp[wayL]
   |succ k=>rw[wayL,if_neg (by omega),K1l]
  ·obtain rfl:i=0:=by omega
   exact⟨hv,by simpa using h0⟩
 |succ n ih=>
  intro k v out hv h0 hk;obtain⟨k,rfl⟩:∃k',k=k'+1:=⟨k-1,by omega⟩;obtain⟨n1,n2⟩:=Qiy (hP v.toNat (by omega) (by omega))
  have hvG:v.toNat<G.length:=by rw[hG.len];omega
  have e:G.getD v.toNat []=G[v.toNat]:=by simp[K1,hvG]
  have hin:=hG.inn _ (K4 hvG) _ (e▸n1);obtain⟨t,t1,t2,t3,t4⟩:=ih k (Q2j G s v) (out++[Q2j G s v]) hin (by omega) (by omega);refine⟨Q2j G s v::t,?_,by simp[t2],fun i hi=> ?_,fun i hi=> ?_⟩
  ·rw[wayL,if_pos (by omega),t1,Kj];rfl
  ·cases i with
   |zero=>simpa using n1
   |succ i=>
    have:=t3 i (by omega);simpa only[List.getD_cons_succ]using this
  ·cases i with
   |zero=>exact⟨hv,by simpa using h0⟩
   |succ i=>
    have:=t4 i (by omega);simp only[List.getD_cons_succ];exact⟨this.1,by omega⟩
structure ShortWay (G:List (List Int)) (fr to l:List Int):Prop where
 len:l.length≤G.length
 pos:1≤l.length
 head:l.getD 0 0∈fr
 last:l.getD (l.length-1) 0∈to
 arc:∀i,i+1<l.length→l.getD (i+1) 0∈G.getD (l.getD i 0).toNat []
 inn:∀i,i<l.length→0≤l.getD i 0∧l.getD i 0<(G.length:Int)
 notf:∀i,i+1<l.length→¬l.getD (i+1) 0∈fr
 nott:∀i,i+1<l.length→¬l.getD i 0∈to
theorem Q4d{m:Nat}{G:List (List Int)}(hG:Gr m G)(hs:∀l∈G,l.length≤2000)(fr to:List Int)(hfw:∀w∈fr,0≤w∧w<(m:Int))(ht:to.length≤10000)(htw:∀w∈to,0≤w∧w<(m:Int)){l:List Int}(h:Q1k G fr to=some l):ShortWay G fr to l:=by
 have hT:=Q64 hG hs
 have hg:∀l∈G,∀w∈l,0≤w∧w<(G.length:Int):=by rw[hG.len];exact hG.inn
 have hI:=Qch hT to ht htw;obtain⟨f1,f2,f3,f4,f5⟩:=Q5c hT to htw
 have hP2:∀v:Nat,v<m→0<(farL (Qn G) to).getD v 0→∃u∈G.getD v [],(farL (Qn G) to).getD u.toNat 0=(farL (Qn G) to).getD v 0-1:=by
  intro v hv h0;obtain⟨u,u1,u2,u3⟩:=f5 v (by omega) h0;obtain⟨v',_,hv2,hv3⟩:=(Q2i hg u (v:Int)).1 u2
  have:v'=v:=by omega
  subst this;exact⟨(u:Int),hv3,by rw[K3];exact u3⟩
 unfold Q1k at h
 by_cases c:Q1g (farL (Qn G) to) fr<0
 ·rw[if_pos c]at h;cases h
 ·rw[if_neg c]at h;obtain⟨b1,b2⟩:=(Q58 (farL (Qn G) to) fr).resolve_left c;have hb:=hfw _ b1
  have hmin:=fun x hx h0=>(Q48 (farL (Qn G) to) fr (fun x hx=>(hfw x hx).1) x hx h0).2
  generalize Q1g (farL (Qn G) to) fr=v at h c b1 b2 hb hmin;generalize farL (Qn G) to=s at h hI f1 f2 f3 f4 f5 hP2 b2 hmin;obtain⟨n,hn⟩:=Kc b2;have hhi:=hI.high _ (Q3q (s:=s) (i:=v.toNat) (by omega));obtain⟨t,t1,t2,t3,t4⟩:=Qjm hG s hP2 n G.length v [v] hb hn (by rw[hG.len];omega);rw[t1]at h;have el:l=v::t:=(Option.some.inj h).symm;subst el
  have hl:(v::t).length =n+1:=by rw[Kq,t2]
  refine⟨by rw[hl,hG.len];omega,by omega,by simpa using b1,?_,fun i hi=>t3 i (by omega),fun i hi=> ?_,fun i hi q=> ?_,fun i hi q=> ?_⟩
  ·obtain⟨a1,a2⟩:=t4 n (Kz _);rw[hl,Nat.add_sub_cancel];have:=f3 ((v::t).getD n 0).toNat (by omega) (by omega);rwa[K1t a1.1]at this
  ·rw[hG.len];exact(t4 i (by omega)).1
  ·obtain⟨a1,a2⟩:=t4 (i+1) (by omega);have:=hmin _ q (by omega);omega
  ·obtain⟨a1,a2⟩:=t4 i (by omega);have:=f4 _ q;omega
theorem Q4c{m:Nat}{G:List (List Int)}(hG:Gr m G)(hs:∀l∈G,l.length≤2000)(fr to:List Int)(hfw:∀w∈fr,0≤w∧w<(m:Int))(htw:∀w∈to,0≤w∧w<(m:Int))(h:Q1k G fr to=none){x y:Int}(hx:x∈fr)(hy:y∈to):¬Way (gG G) x y:=by
 intro hw;have hT:=Q64 hG hs;have h1:Way (gG (Qn G)) y x:=Qjn hG (htw y hy) hw;have h2:=(Q8l hT to htw x (hfw x hx)).2 ⟨y,hy,h1⟩;have h3:=(Q48 (farL (Qn G) to) fr (fun x hx=>(hfw x hx).1) x hx h2).1;unfold Q1k at h;rw[if_neg (by omega)]at h;cases h
def arcB(G:List (List Int))(P:List Int)(p:Int):Bool:=(List.range G.length).any fun v=>P.getD v 0==p&&(G.getD v []).any fun w=>P.getD w.toNat 0==p
def hitB(P goal:List Int)(p:Int):Bool:=goal.any fun k=>P.getD k.toNat 0==p
def Qdl(G:List (List Int))(P:List Int)(goals:List (List Int))(p:Int):Bool:=arcB G P p&&goals.all fun goal=>hitB P goal p
def Q1u(m:Nat)(P:List Int):Prop:=P.length=m∧∀v:Nat,v<m→0≤P.getD v 0∧P.getD v 0<(m:Int)
def Q3g(m:Nat)(l:List Int):Prop:=l.length≤100000∧∀x∈l,0≤x∧x<(m:Int)
theorem Q2e(s:List Bool)(i j:Nat)(a:Bool)(hi:i<s.length):(s.set i a).getD j false=if i=j then a else s.getD j false:=by
 rw[K1,List.getElem?_set,K1]
 by_cases h:i=j
 ·subst h;simp[hi]
 ·simp[h]
theorem Qia{m:Nat}(hm:m≤10000)(goals:DRI)(pb:Bool){P:List Int}(hP:Q1u m P)(n:Int)(b:Bool)(out:Bool×List Bool)(v:Nat)(hv:v<m)(t28:DRI)(t29 t30:Int)(r:DLI)(hr:r.2.length≤100000)(hw:∀w∈r.2,0≤w∧w<(m:Int))(d:Nat):∀(i:Nat) (F:List Bool),i+d=r.2.length→F.length=m→
  ∃F':List Bool,F8s goals (pb,P) n (b,F) out (v:Int) t28 t29 t30 r (r.2.length:Int) (i:Int)=some (b,F')∧F'.length=m∧∀p:Nat,p<m→F'.getD p false=(F.getD p false||(P.getD v 0==(p:Int)&&(r.2.drop i).any fun w=>P.getD w.toNat 0==(p:Int))):=by
 have hPl:=hP.1;obtain⟨hv0,hv1⟩:=hP.2 v hv
 induction d with
 |zero=>intro i F hi hF;exact⟨F,by rw[F8sE,gFo],hF,fun p hp=>by rw[K8 (by omega)];simp⟩
 |succ d ih=>
  intro i F hi hF
  have hlt:i<r.2.length:=by omega
  have hx:=hw _ (K4 hlt)
  have step:F8s goals (pb,P) n (b,F) out (v:Int) t28 t29 t30 r (r.2.length:Int) (i:Int)=F8s goals (pb,P) n (b,F.set (P.getD v 0).toNat (F.getD (P.getD v 0).toNat false||(P.getD (r.2[i]).toNat 0==P.getD v 0))) out (v:Int) t28 t29 t30 r (r.2.length:Int) ((i+1:Nat):Int):=by
   rw[F8sE,gTo,gTo,gTo,J2 r.2 _ i hlt,up1o i];simp only[K3,J1];rw[gTo,gTo,gTo,gTo,gT hv0,gTo]
   cases hc:F.getD (P.getD v 0).toNat false with
   |true=>rw[cond_true,gT hv0,gTo,Bool.true_or]
   |false=>rw[cond_false,gT hx.1,gTo,gTo,gTo,gT hv0,gTo,K27]
  obtain⟨F',f1,f2,f3⟩:=ih (i+1) (F.set (P.getD v 0).toNat (F.getD (P.getD v 0).toNat false||(P.getD (r.2[i]).toNat 0==P.getD v 0))) (by omega) (by rw[Km];exact hF);refine⟨F',by rw[step,f1],f2,fun p hp=> ?_⟩;rw[f3 p hp,Q2e _ _ _ _ (by omega),K2 hlt,List.any_cons]
  by_cases c:P.getD v 0=(p:Int)
  ·rw[if_pos (by omega),c,K3,beq_self_eq_true,Ky,Ky,Bool.or_assoc]
  ·rw[if_neg (by omega),beqF c,K1u,K1u]
theorem Qi9{m:Nat}{G:List (List Int)}(hG:Gr m G)(hs:∀l∈G,l.length≤2000)(goals:DRI)(pb:Bool){P:List Int}(hP:Q1u m P)(n:Int)(b nb:Bool)(out:Bool×List Bool){R:List DLI}(hR:R.map Prod.snd=G)(d:Nat):∀(i:Nat) (F:List Bool),i+d=m→F.length=m→
  ∃F':List Bool,Fc0 goals (pb,P) n (b,F) out (nb,R) (m:Int) (i:Int)=some (b,F')∧F'.length=m∧∀p:Nat,p<m→F'.getD p false=(F.getD p false||(List.range' i d).any fun v=>P.getD v 0==(p:Int)&&(G.getD v []).any fun w=>P.getD w.toNat 0==(p:Int)):=by
 have hsm:=hG.small
 have hRl:R.length=m:=by rw[←hG.len,←hR,Kh]
 induction d with
 |zero=>intro i F hi hF;exact⟨F,by rw[Fc0E,gFo],hF,fun p hp=>by simp⟩
 |succ d ih=>
  intro i F hi hF;obtain⟨r1,r2,r3⟩:=Q2x hR (k:=i) (by rw[hG.len];omega);have hsh:=hs _ r3;obtain⟨F1,f1,f2,f3⟩:=Qia hsm goals pb hP n b out i (by omega) (nb,R) (m:Int) (i:Int) (R.getD i (true,[])) (by rw[r2];omega) (by rw[r2];exact hG.inn _ r3) (R.getD i (true,[])).2.length 0 F (by omega) hF;have f1':F8s goals (pb,P) n (b,F) out (i:Int) (nb,R) (m:Int) (i:Int) (R.getD i (true,[])) ((R.getD i (true,[])).2.length :Int) 0=_:=f1;obtain⟨F',g1,g2,g3⟩:=ih (i+1) F1 (by omega) f2;refine⟨F',?_,g2,fun p hp=> ?_⟩
  ·rw[Fc0E,gTo,gTo,gTs,K3];simp only[f1',J0];rw[up1o i,J1,g1]
  ·rw[g3 p hp,f3 p hp,r2,Kg,K1a,List.any_cons,Bool.or_assoc]
theorem Qic{m:Nat}(hm:m≤10000)(pb:Bool){P:List Int}(hP:Q1u m P)(n:Int)(fair out:Bool×List Bool)(b:Bool)(t67:DRI)(t68 t69:Int)(r:DLI)(hr:Q3g m r.2)(d:Nat):∀(i:Nat) (F:List Bool),i+d=r.2.length→F.length=m→
  ∃F':List Bool,Fco (pb,P) n fair out (b,F) t67 t68 t69 r (r.2.length:Int) (i:Int)=some (b,F')∧F'.length=m∧∀p:Nat,p<m→F'.getD p false=(F.getD p false||hitB P (r.2.drop i) (p:Int)):=by
 have hPl:=hP.1;have hrl:=hr.1
 induction d with
 |zero=>intro i F hi hF;exact⟨F,by rw[FcoE,gFo],hF,fun p hp=>by rw[K8 (by omega)];simp[hitB]⟩
 |succ d ih=>
  intro i F hi hF
  have hlt:i<r.2.length:=by omega
  have hx:=hr.2 _ (K4 hlt);obtain⟨hv0,hv1⟩:=hP.2 (r.2[i]).toNat (by omega);obtain⟨F',f1,f2,f3⟩:=ih (i+1) (F.set (P.getD (r.2[i]).toNat 0).toNat true) (by omega) (by rw[Km];exact hF);refine⟨F',?_,f2,fun p hp=> ?_⟩
  ·rw[FcoE,gTo,gTo,gTo,J2 r.2 _ i hlt,up1o i,gT hx.1,gTs,gT hv0,gTs,J1,f1]
  ·rw[f3 p hp,Q2e _ _ _ _ (by omega),K2 hlt,hitB,hitB,List.any_cons]
   by_cases c:P.getD (r.2[i]).toNat 0=(p:Int)
   ·rw[if_pos (by omega),c,beq_self_eq_true,Bool.true_or,Bool.or_true]
   ·rw[if_neg (by omega),beqF c,K27]
theorem Qid{m:Nat}(hm:m≤10000)(part:DLI)(n:Int)(out:Bool×List Bool)(b hb:Bool)(Q:List Bool)(hQ:Q.length=m)(t67:DRI)(t68 t69:Int)(d:Nat):∀(i:Nat) (F:List Bool),i+d=m→F.length=m→
  ∃F':List Bool,F8m part n (b,F) out (hb,Q) t67 t68 t69 (m:Int) (i:Int)=some (b,F')∧F'.length=m∧∀p:Nat,p<m→F'.getD p false=if i≤p then(F.getD p false&&Q.getD p false)else F.getD p false:=by
 induction d with
 |zero=>intro i F hi hF;exact⟨F,by rw[F8mE,gFo],hF,fun p hp=>by rw[if_neg (by omega)]⟩
 |succ d ih=>
  intro i F hi hF
  have step:F8m part n (b,F) out (hb,Q) t67 t68 t69 (m:Int) (i:Int)=F8m part n (b,F.set i (F.getD i false&&Q.getD i false)) out (hb,Q) t67 t68 t69 (m:Int) ((i+1:Nat):Int):=by
   rw[F8mE,gTo,gTo,gTs,up1o i];simp only[K3,J1]
   cases hc:F.getD i false with
   |true=>rw[cond_true,gTo,gTo,gTo,gTo,Ky]
   |false=>rw[cond_false,gTo,gTo,K1u]
  obtain⟨F',f1,f2,f3⟩:=ih (i+1) (F.set i (F.getD i false&&Q.getD i false)) (by omega) (by rw[Km];exact hF);refine⟨F',by rw[step,f1],f2,fun p hp=> ?_⟩;rw[f3 p hp,Q2e _ _ _ _ (by omega)]
  by_cases c:i=p
  ·subst c;rw[if_neg (by omega),if_pos rfl,if_pos (Kz _)]
  ·by_cases c2:i+1≤p
   ·rw[if_pos c2,if_neg c,if_pos (by omega)]
   ·rw[if_neg c2,if_neg c,if_neg (by omega)]
theorem Qib{m:Nat}(hm:m≤10000)(pb:Bool){P:List Int}(hP:Q1u m P)(out:Bool×List Bool)(b gb:Bool)(Q:List DLI)(hQ:∀r∈Q,Q3g m r.2)(hQl:Q.length≤100000)(d:Nat):∀(i:Nat) (F:List Bool),i+d=Q.length→F.length=m→
  ∃F':List Bool,Fbv (pb,P) (m:Int) (b,F) out (gb,Q) (Q.length:Int) (i:Int)=some (b,F')∧F'.length=m∧∀p:Nat,p<m→F'.getD p false=(F.getD p false&&(Q.drop i).all fun r=>hitB P r.2 (p:Int)):=by
 have hlim:=J4
 induction d with
 |zero=>intro i F hi hF;exact⟨F,by rw[FbvE,gFo],hF,fun p hp=>by rw[K8 (by omega)];simp⟩
 |succ d ih=>
  intro i F hi hF
  have hlt:i<Q.length:=by omega
  have hr:=hQ _ (K4 hlt);obtain⟨F1,f1,f2,f3⟩:=Qic hm pb hP (m:Int) (b,F) out false (gb,Q) (Q.length:Int) (i:Int) Q[i] hr (Q[i]).2.length 0 (List.replicate m false) (by omega) (by simp);have f1':Fco (pb,P) (m:Int) (b,F) out (false,List.replicate m false) (gb,Q) (Q.length:Int) (i:Int) Q[i] ((Q[i]).2.length :Int) 0=_:=f1;obtain⟨F2,g1,g2,g3⟩:=Qid hm (pb,P) (m:Int) out b false F1 f2 (gb,Q) (Q.length:Int) (i:Int) m 0 F (by omega) hF;have g1':F8m (pb,P) (m:Int) (b,F) out (false,F1) (gb,Q) (Q.length:Int) (i:Int) (m:Int) 0=_:=g1;obtain⟨F',k1,k2,k3⟩:=ih (i+1) F2 (by omega) g2;refine⟨F',?_,k2,fun p hp=> ?_⟩
  ·rw[FbvE,gTo,gTo,gTs,gTo,gTo,gTo,gTo,J2 Q _ i hlt];simp only[K3,f1',J0,f2,hF,g1'];rw[up1o i,J1,k1]
  ·have e0:(List.replicate m false).getD p false=false:=by
    rw[K1,K21];split<;>rfl
   rw[k3 p hp,g3 p hp,if_pos (Nat.zero_le _),f3 p hp,e0,K27,Kg,K2 hlt,List.all_cons,Bool.and_assoc]
theorem Qfi{m:Nat}(hm:m≤10000)(pb:Bool){P:List Int}(hP:Q1u m P)(b ob:Bool)(F:List Bool)(hF:F.length=m)(d:Nat):∀(i:Nat) (o:List Bool),i+d=m→o.length=m→
  ∃o':List Bool,Fc9 (pb,P) (b,F) (ob,o) (m:Int) (i:Int)=some (ob,o')∧o'.length=m∧∀v:Nat,v<m→o'.getD v false=if i≤v then F.getD (P.getD v 0).toNat false else o.getD v false:=by
 have hPl:=hP.1
 induction d with
 |zero=>intro i o hi ho;exact⟨o,by rw[Fc9E,gFo],ho,fun p hp=>by rw[if_neg (by omega)]⟩
 |succ d ih=>
  intro i o hi ho;obtain⟨hv0,hv1⟩:=hP.2 i (by omega);obtain⟨o',f1,f2,f3⟩:=ih (i+1) (o.set i (F.getD (P.getD i 0).toNat false)) (by omega) (by rw[Km];exact ho);refine⟨o',?_,f2,fun p hp=> ?_⟩
  ·rw[Fc9E,gTo,gTo,gTs,up1o i,K3,gT hv0,gTs,gTo,gTs,J1,f1]
  ·rw[f3 p hp,Q2e _ _ _ _ (by omega)]
   by_cases c:i=p
   ·subst c;rw[if_neg (by omega),if_pos rfl,if_pos (Kz _)]
   ·by_cases c2:i+1≤p
    ·rw[if_pos c2,if_pos (by omega)]
    ·rw[if_neg c2,if_neg c,if_neg (by omega)]
theorem Qjs(m p:Nat):(List.replicate m false).getD p false=false:=by
 rw[K1,K21];split<;>rfl
def Q7g(G:List (List Int))(P:List Int)(goals:List (List Int)):List Bool:=(List.range G.length).map fun v=>Qdl G P goals (P.getD v 0)
theorem Q9o{m:Nat}{G:List (List Int)}(h1:1≤m)(hG:Gr m G)(hs:∀l∈G,l.length≤2000)(nb:Bool){R:List DLI}(hR:R.map Prod.snd=G){pb:Bool}{P:List Int}(hP:Q1u m P)(e:F2e (nb,R)=some (pb,P))(gb:Bool)(Q:List DLI)(hQ:∀r∈Q,Q3g m r.2)(hQl:Q.length≤100000):F7 (nb,R) (gb,Q)=some (false,Q7g G P (Q.map Prod.snd)):=by
 have hlim:=J4;have hsm:=hG.small
 have hRl:R.length=m:=by rw[←hG.len,←hR,Kh]
 have hPl:=hP.1;obtain⟨F1,a1,a2,a3⟩:=Qi9 hG hs (gb,Q) pb hP (m:Int) false nb (false,List.replicate m false) hR m 0 (List.replicate m false) (by omega) (by simp);have a1':Fc0 (gb,Q) (pb,P) (m:Int) (false,List.replicate m false) (false,List.replicate m false) (nb,R) (m:Int) 0=_:=a1;obtain⟨F2,b1,b2,b3⟩:=Qib hsm pb hP (false,List.replicate m false) false gb Q hQ hQl Q.length 0 F1 (by omega) a2;have b1':Fbv (pb,P) (m:Int) (false,F1) (false,List.replicate m false) (gb,Q) (Q.length:Int) 0=_:=b1;obtain⟨F3,c1,c2,c3⟩:=Qfi hsm pb hP false false F2 b2 m 0 (List.replicate m false) (by omega) (by simp);have c1':Fc9 (pb,P) (false,F2) (false,List.replicate m false) (m:Int) 0=_:=c1
 have eF:F3=Q7g G P (Q.map Prod.snd):=by
  apply List.ext_getElem (by rw[c2,Q7g,Kh,List.length_range,hG.len]);intro v hv1 hv2;obtain⟨q0,q1⟩:=hP.2 v (by omega);have:=c3 v (by omega);rw[if_pos (Nat.zero_le _),b3 _ (by omega),a3 _ (by omega),Qjs,K27,Kg,K1t q0]at this;rw[K1,Ka hv1,Option.getD_some]at this;simp only[Q7g,List.getElem_map,List.getElem_range];rw[this,Qdl,arcB,hG.len,K1g,List.all_map];rfl
 rw[F7E,e,J0];simp only[hRl,K3,Kv];rw[gTo,gTo,gTo,gTo,gTo,gTo,gTo,gTo,a1',J0];simp only[b1',J0,c1'];rw[eF]
def Q8(G:List (List Int))(P:List Int):List (List Int):=(List.range G.length).map fun v=>(G.getD v []).filter fun w=>P.getD v 0==P.getD w.toNat 0
def Qy(G:List (List Int))(P:List Int)(own:Int):List (List Int):=(List.range G.length).map fun v=>(G.getD v []).filter fun w=>P.getD v 0==own&&P.getD w.toNat 0==own
theorem Qhs{α:Type}{l:List α}{p q:α→Bool}(h:∀x∈l,p x=q x):l.any p=l.any q:=by
 induction l with
 |nil=>rfl
 |cons a l ih=>rw[List.any_cons,List.any_cons,h a Kk,ih fun x hx=>h x (K9 _ hx)]
theorem Q1h(s:List DLI)(i j:Nat)(a:DLI)(hi:i<s.length):(s.set i a).getD j (true,[])=if i=j then a else s.getD j (true,[]):=by
 rw[K1,List.getElem?_set,K1]
 by_cases h:i=j
 ·subst h;simp[hi]
 ·simp[h]
theorem Qd4(m j:Nat):(List.replicate m ((true,[]):DLI)).getD j (true,[])=(true,[]):=by
 rw[K1,K21];split<;>rfl
theorem Qhj{m:Nat}(hm:m≤10000)(pb:Bool){P:List Int}(hP:Q1u m P)(b:Bool)(v:Nat)(hv:v<m)(t13:DRI)(t14 t15:Int)(r:DLI)(hr:r.2.length≤100000)(hw:∀w∈r.2,0≤w∧w<(m:Int))(d:Nat):∀(i:Nat) (R:List DLI),i+d=r.2.length→R.length=m→(R.getD v (true,[])).2.length +d≤200000→
  ∃R':List DLI,F6j (pb,P) (b,R) (v:Int) t13 t14 t15 r (r.2.length:Int) (i:Int)=some (b,R')∧R'.length=m∧∀j,j<m→(R'.getD j (true,[])).2 =if v=j then(R.getD v (true,[])).2 ++(r.2.drop i).filter (fun w=>P.getD v 0==P.getD w.toNat 0)else(R.getD j (true,[])).2 :=by
 have hlim:=J4;have hPl:=hP.1
 induction d with
 |zero=>
  intro i R hi hR ht;refine⟨R,by rw[F6jE,gFo],hR,fun j hj=> ?_⟩;rw[K8 (by omega),List.filter_nil,K1l];split
  ·rename_i e;rw[e]
  ·rfl
 |succ d ih=>
  intro i R hi hR ht
  have hlt:i<r.2.length:=by omega
  have hx:=hw _ (K4 hlt);rw[F6jE,gTo,gTo,gTo,J2 r.2 _ i hlt,up1o i];simp only[K3,J1];rw[gTo,gTo,gT hx.1,gTo,K2 hlt,K1n]
  cases hq:P.getD v 0==P.getD (r.2[i]).toNat 0 with
  |true=>
   obtain⟨R',a1,a2,a3⟩:=ih (i+1) (R.set v ((R.getD v (true,[])).1 &&false,(R.getD v (true,[])).2 ++[r.2[i]])) (by omega) (by rw[Km];exact hR) (by rw[Q1h _ _ _ _ (by omega),if_pos rfl,Kf,K1c];omega);refine⟨R',?_,a2,fun j hj=> ?_⟩
   ·rw[cond_true,gTo,gTo,gT (by rw[K1c];omega),gTo,gTo,bT (by simp),a1]
   ·rw[a3 j hj,Q1h _ _ _ _ (by omega),Q1h _ _ _ _ (by omega),if_pos rfl,if_pos rfl];split
    ·rw[Kj];rfl
    ·rfl
  |false=>
   obtain⟨R',a1,a2,a3⟩:=ih (i+1) R (by omega) hR (by omega);refine⟨R',by rw[cond_false,a1],a2,fun j hj=> ?_⟩;rw[a3 j hj];simp only[K20,if_false]
theorem Q77{m:Nat}{G:List (List Int)}(hG:Gr m G)(R':List DLI)(h:R'.length=m)(q:Nat→Int→Bool)(hq:∀j,j<m→(R'.getD j (true,[])).2 =(G.getD j []).filter (q j)):R'.map Prod.snd=(List.range G.length).map fun v=>(G.getD v []).filter (q v):=by
 apply List.ext_getElem (by simp[h,hG.len]);intro j h1 h2
 have h1':j<R'.length:=by simpa using h1
 have:=hq j (by omega);simp only[List.getElem_map,List.getElem_range];rw[←this];simp[K1,h1']
theorem Q78{m:Nat}{G:List (List Int)}(hG:Gr m G)(hs:∀l∈G,l.length≤2000)(nb:Bool){R:List DLI}(hR:R.map Prod.snd=G)(pb:Bool){P:List Int}(hP:Q1u m P):∃W,F14 (nb,R) (pb,P)=some (false,W)∧W.map Prod.snd=Q8 G P:=by
 have hlim:=J4;have hsm:=hG.small
 have hRl:R.length=m:=by rw[←hG.len,←hR,Kh]
 have key:∀(d i:Nat) (Q:List DLI),i+d=m→Q.length=m→(∀j,i≤j→(Q.getD j (true,[])).2 =[])→
   ∃W,Fc7 (pb,P) (false,Q) (nb,R) (m:Int) (i:Int)=some (false,W)∧W.length=m∧∀j,j<m→(W.getD j (true,[])).2 =if i≤j then(G.getD j []).filter (fun w=>P.getD j 0==P.getD w.toNat 0)else(Q.getD j (true,[])).2 :=by
  intro d
  induction d with
  |zero=>intro i Q hi hQ _;exact⟨Q,by rw[Fc7E,gFo],hQ,fun j hj=>by rw[if_neg (by omega)]⟩
  |succ d ih=>
   intro i Q hi hQ hz;obtain⟨r1,r2,r3⟩:=Q2x hR (k:=i) (by rw[hG.len];omega);have hsh:=hs _ r3;have hz0:=hz i (Kz _);obtain⟨Q1,a1,a2,a3⟩:=Qhj hsm pb hP false i (by omega) (nb,R) (m:Int) (i:Int) (R.getD i (true,[])) (by rw[r2];omega) (by rw[r2];exact hG.inn _ r3) (R.getD i (true,[])).2.length 0 Q (by omega) hQ (by rw[hz0,r2,K1m];omega);have a1':F6j (pb,P) (false,Q) (i:Int) (nb,R) (m:Int) (i:Int) (R.getD i (true,[])) ((R.getD i (true,[])).2.length :Int) 0=_:=a1
   obtain⟨W,g1,g2,g3⟩:=ih (i+1) Q1 (by omega) a2 (fun j hj=>by
    by_cases c:j<m
    ·rw[a3 j c,if_neg (by omega),hz j (by omega)]
    ·rw[K1,K1p (by omega)]
     rfl)
   refine⟨W,?_,g2,fun j hj=> ?_⟩
   ·rw[Fc7E,gTo,gTo,gTs,K3];simp only[a1',J0];rw[up1o i,J1,g1]
   ·rw[g3 j hj,a3 j hj]
    by_cases c:i=j
    ·subst c;rw[if_neg (by omega),if_pos rfl,if_pos (Kz _),hz0,Kt,Kg,r2]
    ·by_cases c2:i+1≤j
     ·rw[if_pos c2,if_pos (by omega)]
     ·rw[if_neg c2,if_neg c,if_neg (by omega)]
 obtain⟨W,g1,g2,g3⟩:=key m 0 (List.replicate m (true,[])) (by omega) (by simp) (fun j _=>by rw[Qd4]);have g1':Fc7 (pb,P) (false,List.replicate m (true,[])) (nb,R) (m:Int) 0=_:=g1;refine⟨W,?_,Q77 hG W g2 _ fun j hj=>by rw[g3 j hj,if_pos (Nat.zero_le _)]⟩;rw[F14E];simp only[hRl,K3];rw[gTo,gTo,gTo,gTo,g1',J0]
theorem Qi5{m:Nat}(hm:m≤10000)(next goals:DRI)(pb:Bool){P:List Int}(hP:Q1u m P)(b wb:Bool)(met:DLI)(W:List DLI)(hW:W.length=m)(d:Nat):∀(i:Nat) (F:List Bool),i+d=m→F.length=m→
  ∃F':List Bool,F80 next goals (pb,P) (b,F) met (wb,W) (m:Int) (i:Int)=some (b,F')∧F'.length=m∧∀p:Nat,p<m→F'.getD p false=(F.getD p false||(List.range' i d).any fun v=>P.getD v 0==(p:Int)&&decide (((W.getD v (true,[])).2.length :Int)>0)):=by
 have hPl:=hP.1
 induction d with
 |zero=>intro i F hi hF;exact⟨F,by rw[F80E,gFo],hF,fun p hp=>by simp⟩
 |succ d ih=>
  intro i F hi hF;obtain⟨hv0,hv1⟩:=hP.2 i (by omega)
  have step:F80 next goals (pb,P) (b,F) met (wb,W) (m:Int) (i:Int)=F80 next goals (pb,P) (b,F.set (P.getD i 0).toNat (F.getD (P.getD i 0).toNat false||decide (((W.getD i (true,[])).2.length :Int)>0))) met (wb,W) (m:Int) ((i+1:Nat):Int):=by
   rw[F80E,gTo,gTo,gTs,up1o i];simp only[K3,J1];rw[gTo,gTo,gTo,gTo,gT hv0,gTo]
   cases hc:F.getD (P.getD i 0).toNat false with
   |true=>rw[cond_true,gT hv0,gTo,Bool.true_or]
   |false=>rw[cond_false,gT hv0,gTo,K27]
  obtain⟨F',f1,f2,f3⟩:=ih (i+1) (F.set (P.getD i 0).toNat (F.getD (P.getD i 0).toNat false||decide (((W.getD i (true,[])).2.length :Int)>0))) (by omega) (by rw[Km];exact hF);refine⟨F',by rw[step,f1],f2,fun p hp=> ?_⟩;rw[f3 p hp,Q2e _ _ _ _ (by omega),K1a,List.any_cons]
  by_cases c:P.getD i 0=(p:Int)
  ·rw[if_pos (by omega),c,K3,beq_self_eq_true,Ky,Bool.or_assoc]
  ·rw[if_neg (by omega),beqF c,K1u,K27]
theorem Qi7{m:Nat}(hm:m≤10000)(next goals:DRI)(pb:Bool){P:List Int}(hP:Q1u m P)(arrow:Bool×List Bool)(b:Bool)(jj:Nat)(hjj:jj≤100000)(t54:DRI)(t55 t56:Int)(r:DLI)(hr:Q3g m r.2)(d:Nat):∀(i:Nat) (M:List Int),i+d=r.2.length→M.length=m→
  ∃M':List Int,F6h next goals (pb,P) arrow (b,M) (jj:Int) t54 t55 t56 r (r.2.length:Int) (i:Int)=some (b,M')∧M'.length=m∧∀p:Nat,p<m→M'.getD p 0=if M.getD p 0=(jj:Int)∧hitB P (r.2.drop i) (p:Int)=true then(jj:Int)+1 else M.getD p 0:=by
 have hPl:=hP.1;have hrl:=hr.1
 induction d with
 |zero=>intro i M hi hM;exact⟨M,by rw[F6hE,gFo],hM,fun p hp=>by rw[K8 (by omega),if_neg (by simp[hitB])]⟩
 |succ d ih=>
  intro i M hi hM
  have hlt:i<r.2.length:=by omega
  have hx:=hr.2 _ (K4 hlt);obtain⟨hv0,hv1⟩:=hP.2 (r.2[i]).toNat (by omega)
  have hcons:∀p:Int,hitB P (r.2.drop i) p=(P.getD (r.2[i]).toNat 0==p||hitB P (r.2.drop (i+1)) p):=fun p=>by rw[hitB,K2 hlt,List.any_cons];rfl
  rw[F6hE,gTo,gTo,gTo,J2 r.2 _ i hlt,up1o i];simp only[J1];rw[gT hx.1,gTo,gT hv0,gTo]
  by_cases c:M.getD (P.getD (r.2[i]).toNat 0).toNat 0=(jj:Int)
  ·obtain⟨M',f1,f2,f3⟩:=ih (i+1) (M.set (P.getD (r.2[i]).toNat 0).toNat ((jj:Int)+1)) (by omega) (by rw[Km];exact hM);refine⟨M',?_,f2,fun p hp=> ?_⟩
   ·rw[bT (by rw[c];exact beq_self_eq_true _),gT hx.1,gTo,gT hv0,gTo,wr (by omega),f1]
   ·rw[f3 p hp,Qh _ _ _ _ (by omega),hcons]
    by_cases e:P.getD (r.2[i]).toNat 0=(p:Int)
    ·rw[if_pos (show(P.getD (r.2[i]).toNat 0).toNat =p by omega),if_neg (by omega),e,beq_self_eq_true,Bool.true_or,if_pos ⟨by rw[←c];congr 1;omega,rfl⟩]
    ·rw[if_neg (show¬(P.getD (r.2[i]).toNat 0).toNat =p by omega),beqF e,K27]
  ·obtain⟨M',f1,f2,f3⟩:=ih (i+1) M (by omega) hM;refine⟨M',?_,f2,fun p hp=> ?_⟩
   ·rw[bF (beqF c),f1]
   ·rw[f3 p hp,hcons]
    by_cases e:P.getD (r.2[i]).toNat 0=(p:Int)
    ·have:¬M.getD p 0=(jj:Int):=fun q=>c (by rw[←q];congr 1;omega)
     rw[if_neg (fun q=>this q.1),if_neg (fun q=>this q.1)]
    ·rw[beqF e,K27]
theorem Qi6{m:Nat}(hm:m≤10000)(next goals:DRI)(pb:Bool){P:List Int}(hP:Q1u m P)(arrow:Bool×List Bool)(b gb:Bool)(Q:List DLI)(hQ:∀r∈Q,Q3g m r.2)(hQl:Q.length≤100000)(d:Nat):∀(i:Nat) (M:List Int),i+d=Q.length→M.length=m→(∀p:Nat,p<m→0≤M.getD p 0∧M.getD p 0≤(i:Int))→
  ∃M':List Int,Fb3 next goals (pb,P) arrow (b,M) (gb,Q) (Q.length:Int) (i:Int)=some (b,M')∧M'.length=m∧∀p:Nat,p<m→(M'.getD p 0==(Q.length:Int))=(M.getD p 0==(i:Int)&&(Q.drop i).all fun r=>hitB P r.2 (p:Int)):=by
 induction d with
 |zero=>intro i M hi hM h0;exact⟨M,by rw[Fb3E,gFo],hM,fun p hp=>by rw[K8 (by omega),List.all_nil,Bool.and_true,show i=Q.length by omega]⟩
 |succ d ih=>
  intro i M hi hM h0
  have hlt:i<Q.length:=by omega
  have hr:=hQ _ (K4 hlt)
  obtain⟨M1,a1,a2,a3⟩:=Qi7 hm next goals pb hP arrow b i (by omega) (gb,Q) (Q.length:Int) (i:Int) Q[i] hr (Q[i]).2.length 0 M (by omega) hM
  have a1':F6h next goals (pb,P) arrow (b,M) (i:Int) (gb,Q) (Q.length:Int) (i:Int) Q[i] ((Q[i]).2.length :Int) 0=_:=a1
  obtain⟨M',g1,g2,g3⟩:=ih (i+1) M1 (by omega) a2 (fun p hp=>by
   have:=h0 p hp;rw[a3 p hp]
   split<;>omega)
  refine⟨M',?_,g2,fun p hp=> ?_⟩
  ·rw[Fb3E,gTo,gTo,gTs,J2 Q _ i hlt];simp only[a1',J0];rw[up1o i,J1,g1]
  ·have h:=h0 p hp;rw[g3 p hp,a3 p hp,K2 hlt,List.all_cons,Kg,←Bool.and_assoc];congr 1
   by_cases c:M.getD p 0=(i:Int)
   ·rw[c,beq_self_eq_true,Ky]
    cases hitB P (Q[i]).2 (p:Int)with
    |true=>rw[if_pos ⟨rfl,rfl⟩];simp
    |false=>rw[if_neg (by simp)];exact beqF (by omega)
   ·rw[if_neg (fun q=>c q.1),beqF c,K1u];exact beqF (by omega)
theorem Qi8{m:Nat}(hm:m≤10000)(goals:DRI)(pb:Bool){P:List Int}(hP:Q1u m P)(ab mb:Bool)(A:List Bool)(hA:A.length=m)(M:List Int)(hM:M.length=m)(d:Nat):∀(i:Nat) (b:Bool) (o:List Int),i+d=m→o.length≤i→
  ∃b',F67 goals (pb,P) (ab,A) (mb,M) (b,o) (m:Int) (i:Int)=some (b',o++((List.range' i d).filter fun v=>A.getD (P.getD v 0).toNat false&&M.getD (P.getD v 0).toNat 0==(goals.2.length:Int)).map Int.ofNat):=by
 have hlim:=J4;have hPl:=hP.1
 induction d with
 |zero=>intro i b o hi ho;exact⟨b,by rw[F67E,gFo];simp⟩
 |succ d ih=>
  intro i b o hi ho;obtain⟨hv0,hv1⟩:=hP.2 i (by omega);rw[F67E,gTo,gTo,gTs,up1o i];simp only[K3,J1];rw[gT hv0,gTo,K1a,K1n]
  cases hA1:A.getD (P.getD i 0).toNat false with
  |true=>
   rw[cond_true,gTo,gTo,gT hv0,gTo]
   cases hM1:M.getD (P.getD i 0).toNat 0==(goals.2.length:Int)with
   |true=>
    obtain⟨b',e⟩:=ih (i+1) (b&&false) (o++[(i:Int)]) (by omega) (by simp;omega);exact⟨b',by rw[cond_true,gT (by simp;omega),e,if_pos (by rfl),Kj];rfl⟩
   |false=>
    obtain⟨b',e⟩:=ih (i+1) b o (by omega) (by omega);exact⟨b',by rw[cond_false,e,if_neg (by simp)]⟩
  |false=>
   obtain⟨b',e⟩:=ih (i+1) b o (by omega) (by omega);exact⟨b',by rw[cond_false,e,if_neg (by simp)]⟩
def Q2u(G:List (List Int))(P:List Int)(goals:List (List Int)):List Int:=((List.range G.length).filter fun v=>Qdl G P goals (P.getD v 0)).map Int.ofNat
theorem Q1z{G:List (List Int)}{P:List Int}{v:Nat}(hv:v<G.length):(Q8 G P).getD v []=(G.getD v []).filter fun w=>P.getD v 0==P.getD w.toNat 0:=by
 simp[Q8,K1,hv]
theorem Qkr{m:Nat}{G:List (List Int)}(h1:1≤m)(hG:Gr m G)(hs:∀l∈G,l.length≤2000)(nb:Bool){R:List DLI}(hR:R.map Prod.snd=G){pb:Bool}{P:List Int}(hP:Q1u m P)(e:Fh (nb,R)=some (pb,P))(gb:Bool)(Q:List DLI)(hQ:∀r∈Q,Q3g m r.2)(hQl:Q.length≤100000):∃b,Fd (nb,R) (gb,Q)=some (b,Q2u G P (Q.map Prod.snd)):=by
 have hlim:=J4;have hsm:=hG.small
 have hRl:R.length=m:=by rw[←hG.len,←hR,Kh]
 have hPl:=hP.1;obtain⟨W,w1,w2⟩:=Q78 hG hs nb hR pb hP
 have hWl:W.length=m:=by have:=congrArg List.length w2;simp[Q8,hG.len]at this;exact this
 obtain⟨F1,a1,a2,a3⟩:=Qi5 hsm (nb,R) (gb,Q) pb hP false false (false,List.replicate m 0) W hWl m 0 (List.replicate m false) (by omega) (by simp);have a1':F80 (nb,R) (gb,Q) (pb,P) (false,List.replicate m false) (false,List.replicate m 0) (false,W) (m:Int) 0=_:=a1
 have z0:∀p,(List.replicate m (0:Int)).getD p 0=0:=fun p=>by
  rw[K1,K21];split<;>rfl
 obtain⟨M,b1,b2,b3⟩:=Qi6 hsm (nb,R) (gb,Q) pb hP (false,F1) false gb Q hQ hQl Q.length 0 (List.replicate m 0) (by omega) (by simp) (fun p hp=>by rw[z0];omega);have b1':Fb3 (nb,R) (gb,Q) (pb,P) (false,F1) (false,List.replicate m 0) (gb,Q) (Q.length:Int) 0=_:=b1;obtain⟨b',c1⟩:=Qi8 hsm (gb,Q) pb hP false false F1 a2 M b2 m 0 true [] (by omega) (by simp);have c1':F67 (gb,Q) (pb,P) (false,F1) (false,M) (true,[]) (m:Int) 0=_:=c1;refine⟨b',?_⟩;rw[FdE,e,J0];simp only[w1,J0,hRl,hWl,K3];rw[gTo,gTo,gTo,gTo,gTo,gTo,gTo,gTo,a1',J0];simp only[b1',J0,c1',Kt];rw[Q2u,hG.len,K1g];congr 3;apply List.filter_congr;intro v hv
 have hvm:v<m:=by simpa using hv
 obtain⟨q0,q1⟩:=hP.2 v hvm;rw[b3 _ (by omega),a3 _ (by omega),Qjs,K27,z0,K1t q0,Qdl,Kg,List.all_map]
 have e0:((0:Int)==((0:Nat):Int))=true:=by simp
 rw[e0,Ky];congr 1;rw[arcB,hG.len,K1g];apply Qhs;intro u hu
 have hum:u<m:=by simpa using hu
 have erow:(W.getD u (true,[])).2 =(G.getD u []).filter fun w=>P.getD u 0==P.getD w.toNat 0:=by
  rw[←Q1z (by rw[hG.len];exact hum),←w2]
  have:u<W.length:=by omega
  simp[K1,this]
 rw[erow]
 cases hc:P.getD u 0==P.getD v 0 with
 |false=>rfl
 |true=>
  rw[beq_iff_eq]at hc;rw[Ky,Ky,K1w,decide_eq_true_eq,Ku];constructor
  ·intro h;obtain⟨w,hw⟩:=List.exists_mem_of_length_pos (l:=(G.getD u []).filter fun w=>P.getD u 0==P.getD w.toNat 0) (by omega);rw[K1e,beq_iff_eq]at hw;exact⟨w,hw.1,by rw[beq_iff_eq,←hw.2,hc]⟩
  ·rintro⟨w,hw1,hw2⟩
   rw[beq_iff_eq]at hw2;have:=List.length_pos_of_mem (K1e.2 ⟨hw1,by rw[beq_iff_eq,hw2,hc]⟩:w∈(G.getD u []).filter fun w=>P.getD u 0==P.getD w.toNat 0);omega
theorem Qfu{m:Nat}(hm:m≤10000)(pb:Bool){P:List Int}(hP:Q1u m P)(own:Int)(b:Bool)(v:Nat)(hv:v<m)(t13:DRI)(t14 t15:Int)(r:DLI)(hr:r.2.length≤100000)(hw:∀w∈r.2,0≤w∧w<(m:Int))(d:Nat):∀(i:Nat) (R:List DLI),i+d=r.2.length→R.length=m→(R.getD v (true,[])).2.length +d≤200000→
  ∃R':List DLI,F62 (pb,P) own (b,R) (v:Int) t13 t14 t15 r (r.2.length:Int) (i:Int)=some (b,R')∧R'.length=m∧∀j,j<m→(R'.getD j (true,[])).2 =if v=j then(R.getD v (true,[])).2 ++(r.2.drop i).filter (fun w=>P.getD v 0==own&&P.getD w.toNat 0==own)else(R.getD j (true,[])).2 :=by
 have hlim:=J4;have hPl:=hP.1
 induction d with
 |zero=>
  intro i R hi hR ht;refine⟨R,by rw[F62E,gFo],hR,fun j hj=> ?_⟩;rw[K8 (by omega),List.filter_nil,K1l];split
  ·rename_i e;rw[e]
  ·rfl
 |succ d ih=>
  intro i R hi hR ht
  have hlt:i<r.2.length:=by omega
  have hx:=hw _ (K4 hlt);rw[F62E,gTo,gTo,gTo,J2 r.2 _ i hlt,up1o i];simp only[K3,J1];rw[gTo,gTo,K2 hlt,K1n]
  cases hq:P.getD v 0==own with
  |true=>
   rw[cond_true,gT hx.1,gTo,Ky]
   cases hq2:P.getD (r.2[i]).toNat 0==own with
   |true=>
    obtain⟨R',a1,a2,a3⟩:=ih (i+1) (R.set v ((R.getD v (true,[])).1 &&false,(R.getD v (true,[])).2 ++[r.2[i]])) (by omega) (by rw[Km];exact hR) (by rw[Q1h _ _ _ _ (by omega),if_pos rfl,Kf,K1c];omega);refine⟨R',?_,a2,fun j hj=> ?_⟩
    ·rw[cond_true,gTo,gTo,gT (by rw[K1c];omega),gTo,gTo,bT (by simp),a1]
    ·rw[a3 j hj,Q1h _ _ _ _ (by omega),Q1h _ _ _ _ (by omega),if_pos rfl,if_pos rfl];split
     ·rw[Kj,hq];simp only[Ky];rfl
     ·rfl
   |false=>
    obtain⟨R',a1,a2,a3⟩:=ih (i+1) R (by omega) hR (by omega);refine⟨R',by rw[cond_false,a1],a2,fun j hj=> ?_⟩;rw[a3 j hj,hq];simp only[Ky,K20,if_false]
  |false=>
   obtain⟨R',a1,a2,a3⟩:=ih (i+1) R (by omega) hR (by omega);refine⟨R',by rw[cond_false,a1],a2,fun j hj=> ?_⟩;rw[a3 j hj,hq];simp only[K1u,K20,if_false]
theorem Qbg{m:Nat}{G:List (List Int)}(hG:Gr m G)(hs:∀l∈G,l.length≤2000)(nb:Bool){R:List DLI}(hR:R.map Prod.snd=G)(pb:Bool){P:List Int}(hP:Q1u m P)(own:Int):∃W,F16 (nb,R) (pb,P) own=some (false,W)∧W.map Prod.snd=Qy G P own:=by
 have hlim:=J4;have hsm:=hG.small
 have hRl:R.length=m:=by rw[←hG.len,←hR,Kh]
 have key:∀(d i:Nat) (Q:List DLI),i+d=m→Q.length=m→(∀j,i≤j→(Q.getD j (true,[])).2 =[])→
   ∃W,Far (pb,P) own (false,Q) (nb,R) (m:Int) (i:Int)=some (false,W)∧W.length=m∧∀j,j<m→(W.getD j (true,[])).2 =if i≤j then(G.getD j []).filter (fun w=>P.getD j 0==own&&P.getD w.toNat 0==own)else(Q.getD j (true,[])).2 :=by
  intro d
  induction d with
  |zero=>intro i Q hi hQ _;exact⟨Q,by rw[FarE,gFo],hQ,fun j hj=>by rw[if_neg (by omega)]⟩
  |succ d ih=>
   intro i Q hi hQ hz;obtain⟨r1,r2,r3⟩:=Q2x hR (k:=i) (by rw[hG.len];omega);have hsh:=hs _ r3;have hz0:=hz i (Kz _);obtain⟨Q1,a1,a2,a3⟩:=Qfu hsm pb hP own false i (by omega) (nb,R) (m:Int) (i:Int) (R.getD i (true,[])) (by rw[r2];omega) (by rw[r2];exact hG.inn _ r3) (R.getD i (true,[])).2.length 0 Q (by omega) hQ (by rw[hz0,r2,K1m];omega);have a1':F62 (pb,P) own (false,Q) (i:Int) (nb,R) (m:Int) (i:Int) (R.getD i (true,[])) ((R.getD i (true,[])).2.length :Int) 0=_:=a1
   obtain⟨W,g1,g2,g3⟩:=ih (i+1) Q1 (by omega) a2 (fun j hj=>by
    by_cases c:j<m
    ·rw[a3 j c,if_neg (by omega),hz j (by omega)]
    ·rw[K1,K1p (by omega)]
     rfl)
   refine⟨W,?_,g2,fun j hj=> ?_⟩
   ·rw[FarE,gTo,gTo,gTs,K3];simp only[a1',J0];rw[up1o i,J1,g1]
   ·rw[g3 j hj,a3 j hj]
    by_cases c:i=j
    ·subst c;rw[if_neg (by omega),if_pos rfl,if_pos (Kz _),hz0,Kt,Kg,r2]
    ·by_cases c2:i+1≤j
     ·rw[if_pos c2,if_pos (by omega)]
     ·rw[if_neg c2,if_neg c,if_neg (by omega)]
 obtain⟨W,g1,g2,g3⟩:=key m 0 (List.replicate m (true,[])) (by omega) (by simp) (fun j _=>by rw[Qd4]);have g1':Far (pb,P) own (false,List.replicate m (true,[])) (nb,R) (m:Int) 0=_:=g1;refine⟨W,?_,Q77 hG W g2 _ fun j hj=>by rw[g3 j hj,if_pos (Nat.zero_le _)]⟩;rw[F16E];simp only[hRl,K3];rw[gTo,gTo,gTo,gTo,g1',J0]
theorem Qgh{m:Nat}(hm:m≤10000)(sb fb:Bool)(s:List Int)(hs:s.length=m)(F:List Bool)(hF:F.length=m)(d:Nat):∀(i:Nat) (best:Int),i+d=m→best<(m:Int)→
  F5c (sb,s) best (fb,F) (m:Int) (i:Int)=some ((((List.range' i d).filter fun v=>F.getD v false).map Int.ofNat).foldl (Q15 s) best):=by
 induction d with
 |zero=>intro i best hi hb;rw[F5cE,gFo];simp
 |succ d ih=>
  intro i best hi hb;rw[F5cE,gTo,gTo,gTs,up1o i,K1a,K1n];simp only[K3,J1]
  cases hc:F.getD i false with
  |false=>rw[cond_false,ih (i+1) best (by omega) hb];simp only[K20,if_false]
  |true=>
   simp only[cond_true,if_true,K12,K17];have ei:s.getD (toNat (Int.ofNat i)) 0=s.getD i 0:=rfl;rw[gTo,gTo]
   by_cases c1:s.getD i 0≥0
   ·rw[gT c1]
    by_cases c2:best<0
    ·have e:Q15 s best (Int.ofNat i)=(i:Int):=by unfold Q15;rw[ei,if_pos c1,if_pos c2];rfl
     rw[gT c2,e,ih (i+1) (i:Int) (by omega) (by omega)]
    ·rw[gF c2,gTo,gTo,gTo,gTo]
     by_cases c3:s.getD i 0<s.getD best.toNat 0
     ·have e:Q15 s best (Int.ofNat i)=(i:Int):=by unfold Q15;rw[ei,if_pos c1,if_neg c2,if_pos c3];rfl
      rw[gT c3,e,ih (i+1) (i:Int) (by omega) (by omega)]
     ·have e:Q15 s best (Int.ofNat i)=best:=by unfold Q15;rw[ei,if_pos c1,if_neg c2,if_neg c3]
      rw[gF c3,e,ih (i+1) best (by omega) hb]
   ·have e:Q15 s best (Int.ofNat i)=best:=by unfold Q15;rw[ei,if_neg c1]
    rw[gF c1,e,ih (i+1) best (by omega) hb]
theorem Qgi{m:Nat}(hm:m≤10000)(next:DRI)(from_:DLI)(goals:DRI)(sb lb:Bool)(s:List Int)(hs:s.length=m)(l:List Int)(hl:l.length≤100000)(hw:∀x∈l,0≤x∧x<(m:Int))(d:Nat):∀(i:Nat) (best:Int),i+d=l.length→best<(m:Int)→
  F5e next from_ goals (sb,s) best (lb,l) (l.length:Int) (i:Int)=some ((l.drop i).foldl (Q15 s) best):=by
 induction d with
 |zero=>intro i best hi hb;rw[F5eE,gFo,K8 (by omega)];rfl
 |succ d ih=>
  intro i best hi hb
  have hlt:i<l.length:=by omega
  have hx:=hw _ (K4 hlt);rw[F5eE,gTo,gTo,gTs,J2 l _ i hlt,up1o i,K2 hlt,K17];simp only[J1];rw[gT hx.1,gTo]
  by_cases c1:s.getD (l[i]).toNat 0≥0
  ·rw[gT c1]
   by_cases c2:best<0
   ·have e:Q15 s best l[i]=l[i]:=by unfold Q15;rw[if_pos c1,if_pos c2]
    rw[gT c2,e,ih (i+1) l[i] (by omega) hx.2]
   ·rw[gF c2,gT hx.1,gTo,gTo,gTo]
    by_cases c3:s.getD (l[i]).toNat 0<s.getD best.toNat 0
    ·have e:Q15 s best l[i]=l[i]:=by unfold Q15;rw[if_pos c1,if_neg c2,if_pos c3]
     rw[gT c3,e,ih (i+1) l[i] (by omega) hx.2]
    ·have e:Q15 s best l[i]=best:=by unfold Q15;rw[if_pos c1,if_neg c2,if_neg c3]
     rw[gF c3,e,ih (i+1) best (by omega) hb]
  ·have e:Q15 s best l[i]=best:=by unfold Q15;rw[if_neg c1]
   rw[gF c1,e,ih (i+1) best (by omega) hb]
theorem Qki(G:List (List Int))(P:List Int)(goals:List (List Int)):((List.range G.length).filter fun v=>(Q7g G P goals).getD v false).map Int.ofNat=Q2u G P goals:=by
 rw[Q2u];congr 1;apply List.filter_congr;intro v hv
 have hv':v<G.length:=by simpa using hv
 simp[Q7g,K1,hv']
theorem Q2f{m:Nat}{G:List (List Int)}(hG:Gr m G)(hs:∀l∈G,l.length≤2000)(q:Nat→Int→Bool):Gr m ((List.range G.length).map fun v=>(G.getD v []).filter (q v))∧∀l∈(List.range G.length).map fun v=>(G.getD v []).filter (q v),l.length≤2000:=by
 have row:∀l∈(List.range G.length).map fun v=>(G.getD v []).filter (q v),∃r∈G,l.length≤r.length∧∀w∈l,w∈r:=by
  intro l hl;obtain⟨v,hv,rfl⟩:=Kx.1 hl
  have hv':v<G.length:=by simpa using hv
  have e:G.getD v []=G[v]:=by simp[K1,hv']
  exact⟨G.getD v [],by rw[e];exact K4 _,K1q _ _,fun w hw=>(K1e.1 hw).1⟩
 refine⟨⟨by rw[Kh,List.length_range];exact hG.len,fun l hl w hw=> ?_,fun l hl=> ?_,hG.small⟩,fun l hl=> ?_⟩
 ·obtain⟨r,r1,_,r3⟩:=row l hl;exact hG.inn r r1 w (r3 w hw)
 ·obtain⟨r,r1,r2,_⟩:=row l hl;exact K14 r2 (hG.short r r1)
 ·obtain⟨r,r1,r2,_⟩:=row l hl;exact K14 r2 (hs r r1)
theorem Q5d{G:List (List Int)}(q:Nat→Int→Bool){v:Nat}(hv:v<G.length):((List.range G.length).map fun v=>(G.getD v []).filter (q v)).getD v []=(G.getD v []).filter (q v):=by
 simp[K1,hv]
def colL(G:List (List Int))(n j:Nat):List Int:=(List.range n).flatMap fun v=>((G.getD v []).filter fun w=>w==(j:Int)).map fun _=>(v:Int)
theorem Qhc(v:Int)(j:Nat)(row:List Int):∀o:List (List Int),(∀w∈row,0≤w∧w<(o.length:Int))→(Q2m v row o).getD j []=o.getD j []++(row.filter fun w=>w==(j:Int)).map fun _=>v:=by
 induction row with
 |nil=>intro o _;simp[Q2m]
 |cons a row ih=>
  intro o hw;have ha:=hw a Kk;have:=ih (o.set a.toNat (o.getD a.toNat []++[v])) (fun x hx=>by rw[Km];exact hw x (K9 _ hx));rw[Q2m]at this;rw[Q2m,K17,this,Q5o _ _ _ _ (by omega),K1n]
  by_cases c:a=(j:Int)
  ·rw[if_pos (by omega),if_pos (by rw[beq_iff_eq];exact c),K12,Kj,show a.toNat=j by omega];rfl
  ·rw[if_neg (by omega),if_neg (by rw[beq_iff_eq];exact c)]
theorem Qap{G:List (List Int)}(hg:∀l∈G,∀w∈l,0≤w∧w<(G.length:Int))(j:Nat):(Qn G).getD j []=colL G G.length j:=by
 have key:∀n,n≤G.length→((List.range n).foldl (fun o (v:Nat)=>Q2m (v:Int) (G.getD v []) o) (List.replicate G.length [])).getD j []=colL G n j:=by
  intro n
  induction n with
  |zero=>
   intro _;rw[List.range_zero,List.foldl_nil,colL,List.range_zero,List.flatMap_nil,K1,K21];split<;>rfl
  |succ n ih=>
   intro hn
   have hlt:n<G.length:=by omega
   have e:G.getD n []=G[n]:=by simp[K1,hlt]
   obtain⟨t1,_,_⟩:=Q1n G hg n (by omega);rw[List.range_succ,List.foldl_append,K17,List.foldl_nil,Qhc _ _ _ _ (fun w hw=>by rw[t1];exact hg _ (by rw[e];exact K4 hlt) w hw),ih (by omega),colL,colL,List.range_succ,List.flatMap_append];simp
 exact key G.length (Kz _)
theorem Qep(k:Nat)(ws:List Int):∀s q:List Int,∀w∈(ws.foldl (Qw k) (s,q)).2,w∈q∨w∈ws:=by
 induction ws with
 |nil=>intro s q w h;exact Or.inl h
 |cons a ws ih=>
  intro s q w h;rw[K17]at h;unfold Qw at h
  by_cases c:s.getD a.toNat 0<0
  ·simp only[if_pos c]at h
   rcases ih _ _ w h with h|h
   ·rcases Kl.1 h with h|h
    ·exact Or.inl h
    ·rw[Kn]at h;exact Or.inr (by rw[h];exact Kk)
   ·exact Or.inr (K9 _ h)
  ·simp only[if_neg c]at h
   rcases ih _ _ w h with h|h
   ·exact Or.inl h
   ·exact Or.inr (K9 _ h)
theorem Qhv{G G':List (List Int)}(C:Int→Prop)(hrow:∀k,C k→G.getD k.toNat []=G'.getD k.toNat []∧∀w∈G.getD k.toNat [],C w)(n:Nat):∀s q:List Int,(∀k∈q,C k)→bfsL G n s q=bfsL G' n s q:=by
 induction n with
 |zero=>intro s q _;rfl
 |succ n ih=>
  intro s q hq
  cases q with
  |nil=>rfl
  |cons k q=>
   obtain⟨e,h⟩:=hrow k (hq k Kk);show bfsL G n _ _=bfsL G' n _ _;rw[←e]
   refine ih _ _ fun w hw=> ?_
   rcases Qep _ _ _ _ w hw with c|c
   ·exact hq w (K9 _ c)
   ·exact h w c
theorem Qfj{G G':List (List Int)}(hl:G.length=G'.length)(C:Int→Prop)(hrow:∀k,C k→G.getD k.toNat []=G'.getD k.toNat []∧∀w∈G.getD k.toNat [],C w)(l:List Int)(h:∀k∈l,C k):farL G l=farL G' l:=by
 rw[farL,farL,hl];exact Qhv C hrow _ _ _ h
theorem Qhh{G G':List (List Int)}(s:List Int)(C:Int→Prop)(hrow:∀k,C k→G.getD k.toNat []=G'.getD k.toNat []∧∀w∈G.getD k.toNat [],C w)(n:Nat):∀(v:Int) (out:List Int),C v→wayL G s n v out=wayL G' s n v out:=by
 induction n with
 |zero=>intro v out _;rfl
 |succ n ih=>
  intro v out hv;obtain⟨e,h⟩:=hrow v hv
  have en:Q2j G s v=Q2j G' s v:=by rw[Q2j,Q2j,e]
  have hc:C (Q2j G s v):=by
   unfold Q2j
   cases q:(G.getD v.toNat []).find? fun w=>s.getD w.toNat 0==s.getD v.toNat 0-1 with
   |none=>exact hv
   |some w=>exact h w (K23 q)
  rw[wayL,wayL,←en,ih _ _ hc]
theorem Q5q{m:Nat}{G:List (List Int)}(hG:Gr m G)(hs:∀l∈G,l.length≤2000)(P:List Int)(own:Int)(fr to:List Int)(hf:∀x∈fr,(0≤x∧x<(m:Int))∧P.getD x.toNat 0=own)(ht:∀x∈to,(0≤x∧x<(m:Int))∧P.getD x.toNat 0=own):Q1k (Qy G P own) fr to=Q1k (Q8 G P) fr to:=by
 have i1:Gr m (Qy G P own)∧∀l∈Qy G P own,l.length≤2000:=Q2f hG hs fun v w=>P.getD v 0==own&&P.getD w.toNat 0==own
 have w1:Gr m (Q8 G P)∧∀l∈Q8 G P,l.length≤2000:=Q2f hG hs fun v w=>P.getD v 0==P.getD w.toNat 0
 have li:(Qy G P own).length =m:=i1.1.len;have lw:(Q8 G P).length =m:=w1.1.len
 have gi:∀l∈Qy G P own,∀w∈l,0≤w∧w<((Qy G P own).length :Int):=by rw[li];exact i1.1.inn
 have gw:∀l∈Q8 G P,∀w∈l,0≤w∧w<((Q8 G P).length :Int):=by rw[lw];exact w1.1.inn
 have ri:∀v,v<m→(Qy G P own).getD v []=(G.getD v []).filter fun w=>P.getD v 0==own&&P.getD w.toNat 0==own:=fun v hv=>Q5d (fun v w=>P.getD v 0==own&&P.getD w.toNat 0==own) (by rw[hG.len];exact hv)
 have rw_:∀v,v<m→(Q8 G P).getD v []=(G.getD v []).filter fun w=>P.getD v 0==P.getD w.toNat 0:=fun v hv=>Q5d (fun v w=>P.getD v 0==P.getD w.toNat 0) (by rw[hG.len];exact hv)
 have hin:∀v:Nat,v<m→∀w∈G.getD v [],0≤w∧w<(m:Int):=fun v hv w hw=>by
  have hv':v<G.length:=by rw[hG.len];exact hv
  have e:G.getD v []=G[v]:=by simp[K1,hv']
  exact hG.inn _ (K4 hv') w (e▸hw)
 have row:∀k,((0≤k∧k<(m:Int))∧P.getD k.toNat 0=own)→(Qy G P own).getD k.toNat []=(Q8 G P).getD k.toNat []∧∀w∈(Qy G P own).getD k.toNat [],(0≤w∧w<(m:Int))∧P.getD w.toNat 0=own:=by
  intro k hk;rw[ri k.toNat (by omega),rw_ k.toNat (by omega),hk.2];refine⟨?_,fun w hw=> ?_⟩
  ·apply List.filter_congr;intro w _;rw[beq_self_eq_true,Ky,K1w,beq_iff_eq,beq_iff_eq];exact eq_comm
  ·rw[K1e,K7,beq_iff_eq,beq_iff_eq]at hw;exact⟨hin k.toNat (by omega) w hw.1,hw.2.2⟩
 have trow:∀k,((0≤k∧k<(m:Int))∧P.getD k.toNat 0=own)→(Qn (Qy G P own)).getD k.toNat []=(Qn (Q8 G P)).getD k.toNat []∧∀w∈(Qn (Qy G P own)).getD k.toNat [],(0≤w∧w<(m:Int))∧P.getD w.toNat 0=own:=by
  intro k hk;constructor
  ·rw[Qap gi,Qap gw,li,lw,colL,colL]
   have key:∀v∈List.range m,(((Qy G P own).getD v []).filter fun w=>w==((k.toNat:Nat):Int))=(((Q8 G P).getD v []).filter fun w=>w==((k.toNat:Nat):Int)):=by
    intro v hv
    have hv':v<m:=by simpa using hv
    rw[ri v hv',rw_ v hv',List.filter_filter,List.filter_filter];apply List.filter_congr;intro w _
    by_cases c:w=((k.toNat:Nat):Int)
    ·have e:P.getD w.toNat 0=own:=by rw[c,K3];exact hk.2
     rw[e,beq_self_eq_true,Bool.and_true]
    ·rw[beqF c,K1u,K1u]
   rw[List.flatMap_def,List.flatMap_def];congr 1;apply List.map_congr_left;intro v hv;rw[key v hv]
  ·intro w hw;obtain⟨v,hv,rfl,hvk⟩:=(Q2i gi k.toNat w).1 hw;rw[li]at hv;rw[ri v hv,K1e,K7,beq_iff_eq]at hvk;exact⟨by omega,by rw[K3];exact hvk.2.1⟩
 have tl:(Qn (Qy G P own)).length =(Qn (Q8 G P)).length :=by
  have a:=(Q1n _ gi _ (Kz _)).1;have b:=(Q1n _ gw _ (Kz _)).1;have a':(Qn (Qy G P own)).length =(Qy G P own).length :=a;have b':(Qn (Q8 G P)).length =(Q8 G P).length :=b;rw[a',b',li,lw]
 have ef:=Qfj tl (fun k=>(0≤k∧k<(m:Int))∧P.getD k.toNat 0=own) trow to ht;rw[Q1k,Q1k,ef,li,lw]
 by_cases c:Q1g (farL (Qn (Q8 G P)) to) fr<0
 ·simp only[if_pos c]
 ·simp only[if_neg c];have hb:=((Q58 (farL (Qn (Q8 G P)) to) fr).resolve_left c).1;rw[Qhh _ (fun k=>(0≤k∧k<(m:Int))∧P.getD k.toNat 0=own) row m _ _ (hf _ hb)]
theorem Qii{g:Int→List Int}{x y m k:Int}(h:IsL g x m)(h2:IsL g y k):m=k↔Scc g x y:=by
 constructor
 ·rintro rfl
  exact h.1.trans h2.1.symm
 ·intro e;exact(h.of e).one h2
def Q3j(m:Nat)(G:List (List Int))(P:List Int):Prop:=P.length=m∧∀x,0≤x∧x<(m:Int)→IsL (gG G) x (P.getD x.toNat 0)
theorem Qm7{m:Nat}{G:List (List Int)}(hG:Gr m G){a b:Int}(h:Way (gG G) a b)(ha:0≤a∧a<(m:Int)):0≤b∧b<(m:Int):=Way.closed (P:=fun y=>0≤y∧y<(m:Int)) (fun x _ y hy=>Qfn hG x y hy) h ha
theorem Q3j.ok{m:Nat}{G:List (List Int)}{P:List Int}(hG:Gr m G)(h:Q3j m G P):Q1u m P:=⟨h.1,fun v hv=>by
 have:=h.2 (v:Int) (by omega);rw[K3]at this
 exact Qm7 hG this.1.1 (by omega)⟩
theorem Q3j.same{m:Nat}{G:List (List Int)}{P:List Int}(h:Q3j m G P){x y:Int}(hx:0≤x∧x<(m:Int))(hy:0≤y∧y<(m:Int)):P.getD x.toNat 0=P.getD y.toNat 0↔Scc (gG G) x y:=Qii (h.2 x hx) (h.2 y hy)
theorem Q7w{m:Nat}{G:List (List Int)}(hG:Gr m G){P:List Int}{x y:Int}(hx:0≤x∧x<(m:Int)):y∈gG (Q8 G P) x↔y∈gG G x∧P.getD x.toNat 0=P.getD y.toNat 0:=by
 rw[Qb8 _ hx.1,Qb8 _ hx.1,Q1z (by rw[hG.len];omega),K1e,beq_iff_eq]
theorem Q5j{m:Nat}{G:List (List Int)}(hG:Gr m G){P:List Int}(h:Q3j m G P){a b:Int}(hw:Way (gG G) a b):(0≤a∧a<(m:Int))→Way (gG G) b a→Way (gG (Q8 G P)) a b:=by
 induction hw with
 |here a=>exact fun _ _=>Way.here a
 |step e hw ih=>
  intro ha hb;have hc:=Qfn hG _ _ e;have hs:=(h.same ha hc).2 ⟨Way.arc e,hw.trans hb⟩;exact Way.step ((Q7w hG ha).2 ⟨e,hs⟩) (ih hc (hb.snoc e))
theorem Qf4(r:DLI)(hf:r.1=true→r.2=[])(hl:r.2.length≤1048576):F51 r=some r:=by
 obtain⟨b,l⟩:=r
 cases b with
 |false=>exact Q1x l hl
 |true=>
  obtain rfl:l=[]:=hf rfl;rw[F51E,cond_true]
def Q22(P goal:List Int)(own:Int):List Int:=goal.filter fun k=>P.getD k.toNat 0==own
theorem Qb3{m:Nat}(hm:m≤10000)(pb:Bool){P:List Int}(hP:Q1u m P)(meet:Int)(hme:0≤meet∧meet<(m:Int))(l:DLI)(hl:Q3g m l.2):F2t l ((pb,P),(meet,()))=some (l.1,Q22 P l.2 (P.getD meet.toNat 0)):=by
 have hPl:=hP.1;have hll:=hl.1
 have one:∀x,0≤x∧x<(m:Int)→F61 x (pb,P) meet=some (!(P.getD x.toNat 0==P.getD meet.toNat 0)):=fun x hx=>by
  rw[F61E,gT hx.1,gTs,gT hme.1,gTs];rfl
 have hX:=Ja l.2 (fun s=> !(P.getD s.toNat 0==P.getD meet.toNat 0)) (fun i=>Fc8 l ((pb,P),(meet,())) (l.2.length:Int) i) (fun i hi=>by
  rw[Fc8E,gTo,gTo,gTo,J2 l.2 _ i hi,one _ (hl.2 _ (K4 hi)),J0,up1o i,J1]) (by rw[Fc8E,gFo])
 have e:Q22 P l.2 (P.getD meet.toNat 0)=l.2.filter (fun s=> !!(P.getD s.toNat 0==P.getD meet.toNat 0)):=by
  rw[Q22];congr 1;funext x;rw[Bool.not_not]
 rw[F2tE,F4iE,e]
 exact Q6c (f:=l.1) (fun x=>0≤x∧x<(m:Int)) (fun s i j=>F8n s ((pb,P),(meet,())) i j) (by omega) hl.2 (fun s i j hij hj hn2 hP2=>by
  rw[F8nE,gTs,gTo,gTs,J2 s _ j hj,one _ (hP2 _ (K4 hj)),J0,gTo,gTs,up1o j,up1o i,J1,J1,K3]) (fun s i hn=>by rw[F8nE,gF (by simp only;omega)]) hX
theorem Qis{m:Nat}(hm:m≤10000)(pb:Bool){P:List Int}(hP:Q1u m P)(meet:Int)(hme:0≤meet∧meet<(m:Int))(stem:DLI)(inner:DRI)(loop:DLI)(t77:DRI)(t78 t79:Int)(l:DLI)(hl:Q3g m l.2)(d:Nat):∀(i:Nat) (b:Bool) (o:List Int),i+d=l.2.length→o.length≤i→
  ∃b',F82 meet stem (pb,P) inner loop (b,o) t77 t78 t79 l (l.2.length:Int) (i:Int)=some (b',o++Q22 P (l.2.drop i) (P.getD meet.toNat 0)):=by
 have hlim:=J4;have hPl:=hP.1;have hll:=hl.1
 induction d with
 |zero=>intro i b o hi ho;exact⟨b,by rw[F82E,gFo,K8 (by omega)];simp[Q22]⟩
 |succ d ih=>
  intro i b o hi ho
  have hlt:i<l.2.length:=by omega
  have hx:=hl.2 _ (K4 hlt);rw[F82E,gTo,gTo,gTo,J2 l.2 _ i hlt,up1o i,K2 hlt,Q22,K1n];simp only[J1];rw[gT hx.1,gTo,gT hme.1,gTo]
  cases hq:P.getD (l.2[i]).toNat 0==P.getD meet.toNat 0 with
  |true=>
   obtain⟨b',e⟩:=ih (i+1) (b&&false) (o++[l.2[i]]) (by omega) (by simp;omega);exact⟨b',by rw[cond_true,gT (by simp;omega),e,if_pos rfl,Kj];rfl⟩
  |false=>
   obtain⟨b',e⟩:=ih (i+1) b o (by omega) (by omega);exact⟨b',by rw[cond_false,e];simp only[K20,if_false];rfl⟩
def Qz(l:List Int):Int:=l.getD (l.length-1) 0
def Arcs(G:List (List Int))(l:List Int):Prop:=∀i,i+1<l.length→l.getD (i+1) 0∈G.getD (l.getD i 0).toNat []
theorem Q35(l t:List Int)(i:Nat):(l++t).getD i 0=if i<l.length then l.getD i 0 else t.getD (i-l.length) 0:=by
 rw[K1,K1,K1];split
 ·rename_i h;rw[Ko h]
 ·rename_i h;rw[Ks (by omega)]
theorem Qdm(l:List Int)(i:Nat):(l.drop 1).getD i 0=l.getD (i+1) 0:=by
 rw[K1,List.getElem?_drop,K1,Nat.add_comm]
theorem Q6h(l g:List Int)(h1:1≤l.length)(h2:1≤g.length)(h:g.getD 0 0=Qz l)(i:Nat)(hi:l.length≤i+1):(l++g.drop 1).getD i 0=g.getD (i+1-l.length) 0:=by
 rw[Q35];split
 ·have e:i=l.length-1:=by omega
  rw[show i+1-l.length=0 by omega,h,Qz,e]
 ·rw[Qdm];congr 1;omega
theorem Q67{G:List (List Int)}{l g:List Int}(hl:Arcs G l)(hg:Arcs G g)(h1:1≤l.length)(h2:1≤g.length)(h:g.getD 0 0=Qz l):Arcs G (l++g.drop 1):=by
 intro i hi;rw[Kf,K29]at hi
 by_cases c:i+1<l.length
 ·have:=hl i c;rw[Q35,Q35,if_pos c,if_pos (by omega)];exact this
 ·rw[Q6h l g h1 h2 h (i+1) (by omega),Q6h l g h1 h2 h i (by omega)];have:=hg (i+1-l.length) (by omega);rw[show i+1+1-l.length=i+1-l.length+1 by omega];exact this
theorem Qg8{l g:List Int}(h1:1≤l.length)(h2:1≤g.length)(h:g.getD 0 0=Qz l):Qz (l++g.drop 1)=Qz g:=by
 rw[Qz,Q6h l g h1 h2 h _ (by rw[Kf,K29];omega),Qz,Kf,K29];congr 1;omega
theorem Qb9{l:List Int}{i:Nat}(h:i<l.length):l.getD i 0∈l:=by
 have e:l.getD i 0=l[i]:=by simp[K1,h]
 rw[e];exact K4 h
theorem Q8x{l:List Int}{x:Int}(h:x∈l):∃i,i<l.length∧l.getD i 0=x:=by
 obtain⟨i,hi,rfl⟩:=List.getElem_of_mem h;exact⟨i,hi,by simp[K1,hi]⟩
structure J37 (m:Nat) (G:List (List Int)) (P:List Int) (meet:Int) (L:List Int):Prop where
 pos:1≤L.length
 head:L.getD 0 0=meet
 arcs:Arcs (Q8 G P) L
 inn:∀x∈L,(0≤x∧x<(m:Int))∧P.getD x.toNat 0=P.getD meet.toNat 0
theorem J37.last{m:Nat}{G:List (List Int)}{P:List Int}{meet:Int}{L:List Int}(h:J37 m G P meet L):(0≤Qz L∧Qz L<(m:Int))∧P.getD (Qz L).toNat 0=P.getD meet.toNat 0:=h.inn _ (Qb9 (by have:=h.pos;omega))
theorem J37.step{m:Nat}{G:List (List Int)}(hG:Gr m G)(hs:∀l∈G,l.length≤2000){P:List Int}{meet:Int}{L:List Int}(h:J37 m G P meet L){to:List Int}(hto:to.length≤10000)(ht:∀x∈to,(0≤x∧x<(m:Int))∧P.getD x.toNat 0=P.getD meet.toNat 0){g:List Int}(e:Q1k (Q8 G P) [Qz L] to=some g):J37 m G P meet (L++g.drop 1)∧1≤g.length∧g.length≤m∧Qz (L++g.drop 1)∈to:=by
 obtain⟨w1,w2⟩:Gr m (Q8 G P)∧∀l∈Q8 G P,l.length≤2000:=Q2f hG hs fun v w=>P.getD v 0==P.getD w.toNat 0
 have hl:=h.last;have S:=Q4d w1 w2 [Qz L] to (fun w hw=>by rw[Kn]at hw;rw[hw];exact hl.1) hto (fun w hw=>(ht w hw).1) e;have h0:g.getD 0 0=Qz L:=Kn.1 S.head;have hlen:(Q8 G P).length =m:=w1.len
 have hpart:∀i,i<g.length→P.getD (g.getD i 0).toNat 0=P.getD meet.toNat 0:=by
  intro i
  induction i with
  |zero=>intro _;rw[h0];exact hl.2
  |succ i ih=>
   intro hi;have hin:=S.inn i (by omega);rw[hlen]at hin;have:=S.arc i hi;rw[Q1z (by rw[hG.len];omega),K1e,beq_iff_eq]at this;rw[←this.2];exact ih (by omega)
 refine⟨⟨by rw[Kf];have:=h.pos;omega,?_,Q67 h.arcs S.arc h.pos S.pos h0,fun x hx=> ?_⟩,S.pos,by have:=S.len;omega,?_⟩
 ·rw[Q35,if_pos (by have:=h.pos;omega)];exact h.head
 ·rcases Kl.1 hx with hx|hx
  ·exact h.inn x hx
  ·obtain⟨i,hi,rfl⟩:=Q8x (List.mem_of_mem_drop hx);have:=S.inn i hi;rw[hlen]at this;exact⟨this,hpart i hi⟩
 ·rw[Qg8 h.pos S.pos h0];exact S.last
theorem Q6d{l:List Int}(h:1≤l.length):(l.take l.length).drop (l.length-1)=[Qz l]:=by
 rw[K1d (Kz _),K2 (by omega),K8 (by omega)];simp[Qz,K1,show l.length-1<l.length by omega]
theorem Qbq{m:Nat}{G:List (List Int)}(h1:1≤m)(hG:Gr m G)(hs:∀l∈G,l.length≤2000){P:List Int}(hP:Q3j m G P)(pb pb2:Bool)(meet:Int)(hme:0≤meet∧meet<(m:Int))(stem stem2:DLI)(ib wb:Bool){I W:List DLI}(hI:I.map Prod.snd=Qy G P (P.getD meet.toNat 0))(hW:W.map Prod.snd=Q8 G P)(gb:Bool)(Q:List DLI)(hQ:∀r∈Q,Q3g m r.2∧r.2.length≤10000∧(r.1=true→r.2=[]))(hQl:Q.length≤1000)(gb2:Bool)(Q2:List DLI)(hQ2:Q2.map Prod.snd=Q.map Prod.snd)(hit:∀r∈Q,hitB P r.2 (P.getD meet.toNat 0)=true)(d:Nat):∀(i:Nat) (L:List Int),i+d=Q.length→J37 m G P meet L→L.length+10000*d≤200000000→
  ∃L',Fbu meet stem (pb,P) (ib,I) (false,L) (gb,Q) (Q.length:Int) (i:Int)=some (false,L')∧Fai meet stem2 (pb2,P) (wb,W) (false,L) (gb2,Q2) (Q2.length:Int) (i:Int)=some (false,L')∧J37 m G P meet L'∧L'.length≤L.length+m*d∧(∀x∈L,x∈L')∧∀r∈Q.drop i,∃k∈r.2,k∈L':=by
 have hlim:=J4;have hsm:=hG.small;have hPo:=hP.ok hG
 have hl2:Q2.length=Q.length:=by have:=congrArg List.length hQ2;rwa[Kh,Kh]at this
 obtain⟨w1,w2⟩:Gr m (Q8 G P)∧∀l∈Q8 G P,l.length≤2000:=Q2f hG hs fun v w=>P.getD v 0==P.getD w.toNat 0
 obtain⟨i1,i2⟩:Gr m (Qy G P (P.getD meet.toNat 0))∧∀l∈Qy G P (P.getD meet.toNat 0),l.length≤2000:=Q2f hG hs fun v w=>P.getD v 0==P.getD meet.toNat 0&&P.getD w.toNat 0==P.getD meet.toNat 0
 induction d with
 |zero=>intro i L hi hL hB;exact⟨L,by rw[FbuE,gFo],by rw[FaiE,gFo],hL,by omega,fun x h=>h,fun r hr=>by rw[K8 (by omega)]at hr;cases hr⟩
 |succ d ih=>
  intro i L hi hL hB
  have hlt:i<Q.length:=by omega
  have hmem:=K4 hlt
  have hlt2:i<Q2.length:=by omega
  have eq2:(Q2[i]).2 =(Q[i]).2 :=by
   have h1:(Q2.map Prod.snd)[i]'(by rw[Kh];exact hlt2)=(Q.map Prod.snd)[i]'(by rw[Kh];exact hlt):=by congr 1
   rwa[List.getElem_map,List.getElem_map]at h1
  obtain⟨q1,q2,q3⟩:=hQ _ hmem;have hpos:=hL.pos;have hla:=hL.last
  have hto:∀x∈Q22 P (Q[i]).2 (P.getD meet.toNat 0),(0≤x∧x<(m:Int))∧P.getD x.toNat 0=P.getD meet.toNat 0:=fun x hx=>by
   rw[Q22,K1e,beq_iff_eq]at hx;exact⟨q1.2 x hx.1,hx.2⟩
  have htl:(Q22 P (Q[i]).2 (P.getD meet.toNat 0)).length ≤10000:=K14 (K1q _ _) q2
  have hfr:∀x∈[Qz L],(0≤x∧x<(m:Int))∧P.getD x.toNat 0=P.getD meet.toNat 0:=fun x hx=>by rw[Kn]at hx;rw[hx];exact hla
  have eIW:=Q5q hG hs P (P.getD meet.toNat 0) [Qz L] (Q22 P (Q[i]).2 (P.getD meet.toNat 0)) hfr hto
  have hsome:∃g,Q1k (Q8 G P) [Qz L] (Q22 P (Q[i]).2 (P.getD meet.toNat 0))=some g:=by
   cases hq:Q1k (Q8 G P) [Qz L] (Q22 P (Q[i]).2 (P.getD meet.toNat 0))with
   |some g=>exact⟨g,rfl⟩
   |none=>
    exfalso;have hh:=hit _ hmem;rw[hitB,Ku]at hh;obtain⟨k,hk,hkp⟩:=hh;rw[beq_iff_eq]at hkp
    have hkin:k∈Q22 P (Q[i]).2 (P.getD meet.toNat 0):=by rw[Q22,K1e,beq_iff_eq];exact⟨hk,hkp⟩
    have hsc:=(hP.same hla.1 (q1.2 k hk)).1 (by rw[hla.2,hkp]);exact Q4c w1 w2 [Qz L] _ (fun x hx=>(hfr x hx).1) (fun x hx=>(hto x hx).1) hq (Kn.2 rfl) hkin (Q5j hG hP hsc.1 hla.1 hsc.2)
  obtain⟨g,hg⟩:=hsome;obtain⟨s1,s2,s3,s4⟩:=hL.step hG hs htl hto hg;obtain⟨k1,_,_⟩:=Q2h i1 i2 h1 ib ib false false false hI hI [Qz L] (Q22 P (Q[i]).2 (P.getD meet.toNat 0)) (by simp) (fun x hx=>(hfr x hx).1) htl (fun x hx=>(hto x hx).1) (Q[i]).1 (fun h=>by rw[Q22,q3 h];rfl);obtain⟨b4,e4⟩:=Qis hsm pb2 hPo meet hme stem2 (wb,W) (false,L) (gb2,Q2) (Q2.length:Int) (i:Int) Q2[i] (by rw[eq2];exact q1) (Q2[i]).2.length 0 true [] (by omega) (by simp);have e4':F82 meet stem2 (pb2,P) (wb,W) (false,L) (true,[]) (gb2,Q2) (Q2.length:Int) (i:Int) Q2[i] ((Q2[i]).2.length :Int) 0=_:=e4;rw[eq2]at e4';obtain⟨_,k2,_⟩:=Q2h w1 w2 h1 wb wb false false b4 hW hW [Qz L] (Q22 P (Q[i]).2 (P.getD meet.toNat 0)) (by simp) (fun x hx=>(hfr x hx).1) htl (fun x hx=>(hto x hx).1) false (by simp);rw[eIW,hg]at k1;rw[hg]at k2;simp only at k1 k2;obtain⟨L',a1,a2,a3,a4,a5,a6⟩:=ih (i+1) (L++g.drop 1) (by omega) s1 (by rw[Kf,K29];omega)
  have ew:i64.wrap ((L.length:Int)-1)=((L.length-1:Nat):Int):=by rw[wr (by omega)];omega
  have eg:(g.take g.length).drop 1=g.drop 1:=by rw[K1d (Kz _)]
  have ecl:=Qf4 Q[i] q3 (by have:=q2;omega);have edel:=Qb3 hsm pb hPo meet hme Q[i] q1;have edel':F2t ((Q[i]).1,(Q[i]).2) ((pb,P),(meet,()))=_:=edel;refine⟨L',?_,?_,a3,by rw[Kf,K29]at a4;rw[Nat.mul_succ];omega,fun x hx=>a5 x (Ke _ hx),fun r hr=> ?_⟩
  ·rw[FbuE,gTo,gTo,gTs,J2 Q _ i hlt];simp only[ecl,J0,edel',ew,K3,Q6d hpos];rw[gTo,gTo,k1];simp only[J0,eg,K1u];rw[gTo,gT (by rw[K29];omega),up1o i,J1,a1]
  ·rw[FaiE,gTo,gTo,gTs,J2 Q2 _ i hlt2];simp only[eq2,e4',J0,ew,K3,Q6d hpos,Kt,Kg];rw[gTo,gTo,k2];simp only[J0,eg,K1u];rw[gTo,gT (by rw[K29];omega),up1o i,J1,a2]
  ·rw[K2 hlt]at hr
   rcases Kd.1 hr with rfl|hr
   ·refine⟨Qz (L++g.drop 1),(K1e.1 s4).1,a5 _ (Qb9 (by rw[Kf];omega))⟩
   ·exact a6 r hr
theorem Qdx{m:Nat}{G:List (List Int)}(hG:Gr m G)(P:List Int)(own:Int){k:Nat}(hk:k<m)(h:P.getD k 0=own):(Qy G P own).getD k []=(Q8 G P).getD k []:=by
 have e1:(Qy G P own).getD k []=(G.getD k []).filter fun w=>P.getD k 0==own&&P.getD w.toNat 0==own:=Q5d (fun v w=>P.getD v 0==own&&P.getD w.toNat 0==own) (by rw[hG.len];exact hk)
 rw[e1,Q1z (by rw[hG.len];exact hk),h];apply List.filter_congr;intro w _;rw[beq_self_eq_true,Ky,K1w,beq_iff_eq,beq_iff_eq];exact eq_comm
theorem Qhi{g:Int→List Int}{a u w:Int}(h:Way g a u)(hw:w∈g u):∃y∈g a,Way g y w:=by
 cases h with
 |here a=>exact⟨w,hw,Way.here w⟩
 |step e h2=>exact⟨_,e,h2.snoc hw⟩
theorem Qal{l:List Int}(h:1≤l.length):l.take (l.length-1)++[Qz l]=l:=by
 have:=List.take_append_drop (l.length-1) l;have e:=Q6d h;rw[K1d (Kz _)]at e;rw[e]at this;exact this
theorem Qht{G:List (List Int)}{P:List Int}{l:List Int}(hin:∀i,i<l.length→0≤l.getD i 0∧(l.getD i 0).toNat <G.length)(h:Arcs (Q8 G P) l):Arcs G l:=by
 intro i hi;have:=h i hi;rw[Q1z (hin i (by omega)).2,K1e]at this;exact this.1
structure LassoOk (G:List (List Int)) (fr:List Int) (goals:List (List Int)) (s l:List Int):Prop where
 pos:1≤l.length
 short:s.length+l.length≤20001+10000*goals.length
 tight:s.length≤G.length∧l.length≤1+G.length*(goals.length+1)
 head:(s++l++[l.getD 0 0]).getD 0 0∈fr
 arcs:Arcs G (s++l++[l.getD 0 0])
 inn:∀x∈s++l++[l.getD 0 0],0≤x∧x<(G.length:Int)
 goal:∀r∈goals,∃k∈r,k∈l
def Qcu:Option (List Int×List Int)→DLI×DLI×Bool
 |some (s,l)=>((false,s),((false,l),true))
 |none=>((true,[]),((true,[]),false))
theorem Q9n{m:Nat}{G:List (List Int)}(hG:Gr m G){P:List Int}{goals:List (List Int)}{x:Int}:x∈Q2u G P goals↔(0≤x∧x<(m:Int))∧Qdl G P goals (P.getD x.toNat 0)=true:=by
 rw[Q2u,Kx,hG.len];constructor
 ·rintro⟨v,hv,rfl⟩
  rw[K1e,K1x]at hv;exact⟨⟨Int.natCast_nonneg _,by have:=hv.1;exact Int.ofNat_lt.2 this⟩,hv.2⟩
 ·rintro⟨h1,h2⟩
  exact⟨x.toNat,by rw[K1e,K1x];exact⟨by omega,h2⟩,K1t h1.1⟩
theorem Q8k{m:Nat}{G:List (List Int)}(h1:1≤m)(hG:Gr m G)(hs:∀l∈G,l.length≤2000)(nb nb2:Bool){R R2:List DLI}(hR:R.map Prod.snd=G)(hR2:R2.map Prod.snd=G){pb pb2:Bool}{P:List Int}(hP:Q3j m G P)(ei:F2e (nb,R)=some (pb,P))(es:Fh (nb2,R2)=some (pb2,P))(fb fb2:Bool)(fr:List Int)(hf:fr.length≤10000)(hfw:∀w∈fr,0≤w∧w<(m:Int))(hfb:fb=true→fr=[])(gb:Bool)(Q:List DLI)(hQ:∀r∈Q,Q3g m r.2∧r.2.length≤10000∧(r.1=true→r.2=[]))(hQl:Q.length≤1000)(gb2:Bool)(Q2:List DLI)(hQ2:Q2.map Prod.snd=Q.map Prod.snd):
  ∃res,F1d (nb,R) (fb,fr) (gb,Q)=some (Qcu res)∧Fo (nb2,R2) (fb2,fr) (gb2,Q2)=some (Qcu res)∧(res=none↔∀u∈Q2u G P (Q.map Prod.snd),∀x∈fr,¬Way (gG G) x u)∧∀s l,res=some (s,l)→LassoOk G fr (Q.map Prod.snd) s l:=by
 have hlim:=J4;have hsm:=hG.small;have hPo:=hP.ok hG
 have hQ1:∀r∈Q,Q3g m r.2:=fun r hr=>(hQ r hr).1
 obtain⟨f1,f2,f3,f4,f5⟩:=Q5c hG fr hfw;have a1:=Q85 hG h1 nb hR fr hf hfw fb hfb;have a2:=Q9o h1 hG hs nb hR hPo ei gb Q hQ1 (by omega)
 have hFl:(Q7g G P (Q.map Prod.snd)).length =m:=by rw[Q7g,Kh,List.length_range,hG.len]
 have a3:=Qgh hsm false false (farL G fr) f1 (Q7g G P (Q.map Prod.snd)) hFl m 0 (-1) (by omega) (by omega);rw[←K1g,←hG.len,Qki,hG.len]at a3;have a3':F5c (false,farL G fr) (-1) (false,Q7g G P (Q.map Prod.snd)) (m:Int) 0=some (Q1g (farL G fr) (Q2u G P (Q.map Prod.snd))):=a3
 have hl2:Q2.length=Q.length:=by have:=congrArg List.length hQ2;rwa[Kh,Kh]at this
 have b1:=Qju hG nb2 fb2 hR2 fr hf hfw
 obtain⟨lb,b2⟩:=Qkr h1 hG hs nb2 hR2 hPo es gb2 Q2 (fun r hr=>by
  have:r.2∈Q.map Prod.snd:=by rw[←hQ2];exact K1j hr
  obtain⟨r',h3,h4⟩:=Kx.1 this;rw[←h4]
  exact hQ1 r' h3) (by omega)
 rw[hQ2]at b2
 have hfl:(Q2u G P (Q.map Prod.snd)).length ≤m:=by
  rw[Q2u,Kh];refine K14 (K1q _ _) ?_;rw[List.length_range,hG.len];exact Kz _
 have hfin:∀x∈Q2u G P (Q.map Prod.snd),0≤x∧x<(m:Int):=fun x hx=>((Q9n hG).1 hx).1
 have b3:=Qgi hsm (nb2,R2) (fb2,fr) (gb2,Q2) false lb (farL G fr) f1 (Q2u G P (Q.map Prod.snd)) (by omega) hfin (Q2u G P (Q.map Prod.snd)).length 0 (-1) (by omega) (by omega)
 have b3':F5e (nb2,R2) (fb2,fr) (gb2,Q2) (false,farL G fr) (-1) (lb,Q2u G P (Q.map Prod.snd)) ((Q2u G P (Q.map Prod.snd)).length :Int) 0=some (Q1g (farL G fr) (Q2u G P (Q.map Prod.snd))):=by
  rw[Kg]at b3;exact b3
 have em:F20 (nb,R) (fb,fr) (gb,Q)=some (Q1g (farL G fr) (Q2u G P (Q.map Prod.snd))):=by
  rw[F20E,a1,J0,a2,J0];simp only[hFl,a3',J0]
 have hfrom:=Q58 (farL G fr) (Q2u G P (Q.map Prod.snd))
 have hleast:=fun u (hu:u∈Q2u G P (Q.map Prod.snd))=>Q48 (farL G fr) (Q2u G P (Q.map Prod.snd)) (fun x hx=>(hfin x hx).1) u hu
 rw[F1dE,em,FoE,b1,J0,J0,b2,J0];simp only[b3',J0];generalize Q1g (farL G fr) (Q2u G P (Q.map Prod.snd))=M at hfrom hleast⊢
 by_cases c:M<0
 ·refine⟨none,by rw[gT c];rfl,by rw[gT c];rfl,⟨fun _ u hu x hx hw=> ?_,fun _=>rfl⟩,fun s l h=>by cases h⟩;have:=(hleast u hu ((Q8l hG fr hfw u (hfin u hu)).2 ⟨x,hx,hw⟩)).1;omega
 ·obtain⟨m1,m2⟩:=hfrom.resolve_left c;obtain⟨hM,hfair⟩:=(Q9n hG).1 m1;obtain⟨x0,hx0,hx0w⟩:=(Q8l hG fr hfw M hM).1 m2
  have hme1:∀w∈[M],0≤w∧w<(m:Int):=fun w hw=>by rw[Kn]at hw;rw[hw];exact hM
  obtain⟨w1,w2⟩:Gr m (Q8 G P)∧∀l∈Q8 G P,l.length≤2000:=Q2f hG hs fun v w=>P.getD v 0==P.getD w.toNat 0
  obtain⟨i1,i2⟩:Gr m (Qy G P (P.getD M.toNat 0))∧∀l∈Qy G P (P.getD M.toNat 0),l.length≤2000:=Q2f hG hs fun v w=>P.getD v 0==P.getD M.toNat 0&&P.getD w.toNat 0==P.getD M.toNat 0
  have hst:∃st,Q1k G fr [M]=some st:=by
   cases hq:Q1k G fr [M]with
   |some st=>exact⟨st,rfl⟩
   |none=>exact absurd hx0w (Q4c hG hs fr [M] hfw hme1 hq hx0 (Kn.2 rfl))
  obtain⟨st,hst⟩:=hst;obtain⟨k1,k2,_⟩:=Q2h hG hs h1 nb nb2 fb fb2 false hR hR2 fr [M] hf hfw (by simp) hme1 false (by simp);rw[hst]at k1 k2;simp only at k1 k2;have S:=Q4d hG hs fr [M] hfw (by simp) hme1 hst;have hSp:=S.pos;have hSl:=S.len;rw[hG.len]at hSl;obtain⟨I,n1,n2⟩:=Qbg hG hs nb hR pb hPo (P.getD M.toNat 0);obtain⟨W,n3,n4⟩:=Q78 hG hs nb2 hR2 pb2 hPo;have hL0:J37 m G P M [M]:=⟨by simp,rfl,fun i hi=>by simp at hi,fun x hx=>by rw[Kn]at hx;rw[hx];exact⟨hM,rfl⟩⟩;rw[Qdl,K7,K11]at hfair;obtain⟨L,l1,l2,l3,l4,l5,l6⟩:=Qbq h1 hG hs hP pb pb2 M hM (false,st) (false,st) false false n2 n4 gb Q hQ hQl gb2 Q2 hQ2 (fun r hr=>hfair.2 r.2 (K1j hr)) Q.length 0 [M] (by omega) hL0 (by simp only[K1c];omega);have l1':Fbu M (false,st) (pb,P) (false,I) (false,[M]) (gb,Q) (Q.length:Int) 0=_:=l1;have l2':Fai M (false,st) (pb2,P) (false,W) (false,[M]) (gb2,Q2) (Q2.length:Int) 0=_:=l2;have hla:=l3.last;have hLp:=l3.pos;have hmq:m*Q.length≤10000*Q.length:=Kr _ (by omega)
  have hLb:L.length≤20000000:=by simp only[K1c]at l4;omega
  obtain⟨p1,p2,p3⟩:=Q2x n2 (k:=(Qz L).toNat) (by rw[i1.len];omega);obtain⟨q1,q2,q3⟩:=Q2x n4 (k:=(Qz L).toNat) (by rw[w1.len];omega);have hrow:=Qdx hG P (P.getD M.toNat 0) (k:=(Qz L).toNat) (by omega) hla.2
  have hfr2:∀x∈(Q8 G P).getD (Qz L).toNat [],(0≤x∧x<(m:Int))∧P.getD x.toNat 0=P.getD M.toNat 0:=fun x hx=>by
   refine⟨w1.inn _ q3 x hx,?_⟩;rw[Q1z (by rw[hG.len];omega),K1e,beq_iff_eq]at hx;rw[←hx.2];exact hla.2
  have hfl2:((Q8 G P).getD (Qz L).toNat []).length ≤10000:=by have:=w2 _ q3;omega
  have hto2:∀x∈[M],(0≤x∧x<(m:Int))∧P.getD x.toNat 0=P.getD M.toNat 0:=fun x hx=>by rw[Kn]at hx;rw[hx];exact⟨hM,rfl⟩
  have hg:∃g,Q1k (Q8 G P) ((Q8 G P).getD (Qz L).toNat []) [M]=some g:=by
   cases hq:Q1k (Q8 G P) ((Q8 G P).getD (Qz L).toNat []) [M]with
   |some g=>exact⟨g,rfl⟩
   |none=>
    exfalso;have ha:=hfair.1;rw[arcB,Ku]at ha;obtain⟨u,hu,ha⟩:=ha;rw[K1x,hG.len]at hu;rw[K7,beq_iff_eq,Ku]at ha;obtain⟨hup,w,hw,hwp⟩:=ha;rw[beq_iff_eq]at hwp
    have hui:0≤(u:Int)∧(u:Int)<(m:Int):=by omega
    have hwG:w∈gG G (u:Int):=by rw[Qb8 _ hui.1,K3];exact hw
    have hwi:=Qfn hG _ _ hwG;have s1:=(hP.same hla.1 hui).1 (by rw[hla.2,K3,hup]);have s2:=(hP.same hwi hM).1 hwp;have y1:=Q5j hG hP s1.1 hla.1 s1.2;have y2:w∈gG (Q8 G P) (u:Int):=(Q7w hG hui).2 ⟨hwG,by rw[K3,hup,hwp]⟩;obtain⟨y,y3,y4⟩:=Qhi y1 y2;rw[Qb8 _ hla.1.1]at y3;exact Q4c w1 w2 _ [M] (fun x hx=>(hfr2 x hx).1) hme1 hq y3 (Kn.2 rfl) (y4.trans (Q5j hG hP s2.1 hwi s2.2))
  obtain⟨g,hg⟩:=hg;have eIW:=Q5q hG hs P (P.getD M.toNat 0) _ [M] hfr2 hto2;have T:=Q4d w1 w2 _ [M] (fun x hx=>(hfr2 x hx).1) (by simp) hme1 hg;have hTp:=T.pos;have hTl:=T.len;rw[w1.len]at hTl;obtain⟨bi,eIp⟩:∃bi,I.getD (Qz L).toNat (true,[])=(bi,(Q8 G P).getD (Qz L).toNat []):=⟨_,Prod.ext rfl (p2.trans hrow)⟩;obtain⟨bw,eWp⟩:∃bw,W.getD (Qz L).toNat (true,[])=(bw,(Q8 G P).getD (Qz L).toNat []):=⟨_,Prod.ext rfl q2⟩;obtain⟨k3,_,_⟩:=Q2h i1 i2 h1 false false bi bi false n2 n2 _ [M] hfl2 (fun x hx=>(hfr2 x hx).1) (by simp) hme1 false (by simp);obtain⟨_,k4,_⟩:=Q2h w1 w2 h1 false false bw bw false n4 n4 _ [M] hfl2 (fun x hx=>(hfr2 x hx).1) (by simp) hme1 false (by simp);rw[eIW,hg]at k3;rw[hg]at k4;simp only at k3 k4
  have hIl:I.length=m:=by have:=congrArg List.length n2;rw[Kh,i1.len]at this;exact this
  have hWl:W.length=m:=by have:=congrArg List.length n4;rw[Kh,w1.len]at this;exact this
  have ewL:i64.wrap ((L.length:Int)-1)=((L.length-1:Nat):Int):=by rw[wr (by omega)];omega
  have ewS:i64.wrap ((st.length:Int)-1)=((st.length-1:Nat):Int):=by rw[wr (by omega)];omega
  have ewT:i64.wrap ((g.length:Int)-1)=((g.length-1:Nat):Int):=by rw[wr (by omega)];omega
  have elast:L.getD (L.length-1) 0=Qz L:=rfl;refine⟨some (st.take (st.length-1),L++g.take (g.length-1)),?_,?_,⟨fun h=>(by cases h),fun h=>absurd hx0w (h M m1 x0 hx0)⟩,?_⟩
  ·rw[gF c,k1,J0,ei,J0,gT hM.1,gT (by have:=hP.1;simp only;omega)];simp only[n1,J0,l1',ewL,K3,elast];rw[gTo,gTo,gT hla.1.1,gTo,eIp,k3,J0];simp only[ewS,ewT,K3,Kg];rw[gTo,gTo,gTo,gTo,gT (by rw[K1s];omega)];rfl
  ·rw[gF c,k2,J0,es,J0];simp only[n3,J0,l2',ewL,K3,elast];rw[gTo,gTo,gT hla.1.1,gTo,eWp,k4,J0];simp only[ewS,ewT,K3,Kg];rw[gTo,gTo,gTo,gTo,gT (by rw[K1s];omega)];rfl
  ·intro s l he;simp only[K0,K6]at he;obtain⟨rfl,rfl⟩:=he;have hgl:Qz g=M:=Kn.1 T.last;have hsl:Qz st=M:=Kn.1 S.last;have t1:=Qal hSp;have t2:=Qal hTp;have hLh:L.getD 0 0=M:=l3.head
   have eX:(L++g.take (g.length-1)).getD 0 0=M:=by rw[Q35,if_pos (by omega)];exact hLh
   have eL2:L++g.take (g.length-1)++[M]=L++g:=by rw[Kj,←hgl,t2]
   have hX0:(L++g).getD 0 0=Qz st:=by rw[Q35,if_pos (by omega),hLh,hsl]
   have hXl:1≤(L++g).length :=by rw[Kf];omega
   have e5:L++g=[Qz st]++(L++g).drop 1:=by
    cases hh:L++g with
    |nil=>rw[hh]at hXl;simp at hXl
    |cons a t=>
     rw[hh]at hX0;have:a=Qz st:=hX0;rw[this];rfl
   have eAll:st.take (st.length-1)++(L++g.take (g.length-1))++[(L++g.take (g.length-1)).getD 0 0]=st++(L++g).drop 1:=by
    rw[eX,Kj,eL2]
    conv=>rhs;rw[←t1]
    rw[Kj,←e5]
   have ag:Arcs (Q8 G P) (Qz L::g):=by
    intro i hi
    cases i with
    |zero=>exact T.head
    |succ i=>exact T.arc i (by simp only[Kq]at hi;omega)
   have aj:=Q67 (l:=L) (g:=Qz L::g) l3.arcs ag hLp (by simp) rfl;have ed:(Qz L::g).drop 1=g:=rfl;rw[ed]at aj
   have hTi:∀x∈g,0≤x∧x<(m:Int):=fun x hx=>by
    obtain⟨i,hi,rfl⟩:=Q8x hx;have:=T.inn i hi;rw[w1.len]at this;exact this
   have hSi:∀x∈st,0≤x∧x<(m:Int):=fun x hx=>by
    obtain⟨i,hi,rfl⟩:=Q8x hx;have:=S.inn i hi;rw[hG.len]at this;exact this
   have hXi:∀x∈L++g,0≤x∧x<(m:Int):=fun x hx=>by
    rcases Kl.1 hx with hx|hx
    ·exact(l3.inn x hx).1
    ·exact hTi x hx
   have aG:=Qht (G:=G) (fun i hi=>by
    have:=hXi _ (Qb9 hi)
    exact⟨this.1,by rw[hG.len];omega⟩) aj
   refine⟨by rw[Kf];omega,by rw[Kf,K1s,K1s,Kh];simp only[K1c]at l4;omega,⟨by rw[K1s,hG.len];omega,by rw[Kf,K1s,Kh,hG.len,Nat.mul_succ];simp only[K1c]at l4;omega⟩,?_,?_,fun x hx=> ?_,fun r hr=> ?_⟩
   ·rw[eAll,Q35,if_pos (by omega)];exact S.head
   ·rw[eAll];exact Q67 (l:=st) (g:=L++g) S.arc aG hSp hXl hX0
   ·rw[eAll]at hx;rw[hG.len]
    rcases Kl.1 hx with hx|hx
    ·exact hSi x hx
    ·exact hXi x (List.mem_of_mem_drop hx)
   ·obtain⟨r',hr',rfl⟩:=Kx.1 hr;obtain⟨k,hk1,hk2⟩:=l6 r' (by rw[Kg];exact hr');exact⟨k,hk1,Ke _ hk2⟩
def divL(m:Nat)(l:List Int):List Int:=l.map fun k=>Int.tdiv k (m:Int)
theorem Qan{k:Int}{m:Nat}(h:0≤k∧k≤1600)(hm:1≤m):i64.wrap (Int.tdiv k (m:Int))=Int.tdiv k (m:Int):=by
 obtain⟨n,rfl⟩:=Kc h.1;have e:Int.tdiv (n:Int) (m:Int)=((n / m:Nat):Int):=rfl;have h2:=Nat.div_le_self n m;rw[e];generalize n / m=z at h2⊢;rw[wr (by omega)]
theorem Qie(m:Nat)(hm:1≤m)(hm2:m≤1000)(l:DLI)(hl:l.2.length≤40000000)(hin:∀x∈l.2,0≤x∧x≤1600)(d:Nat):∀(i:Nat) (b:Bool) (o:List Int),i+d=l.2.length→o.length≤i→
  ∃b',Fav (m:Int) (b,o) l (l.2.length:Int) (i:Int)=some (b',o++divL m (l.2.drop i)):=by
 have hlim:=J4
 induction d with
 |zero=>intro i b o hi ho;exact⟨b,by rw[FavE,gFo,K8 (by omega)];simp[divL]⟩
 |succ d ih=>
  intro i b o hi ho
  have hlt:i<l.2.length:=by omega
  have hx:=hin _ (K4 hlt);obtain⟨b',e⟩:=ih (i+1) (b&&false) (o++[Int.tdiv l.2[i] (m:Int)]) (by omega) (by simp;omega);refine⟨b',?_⟩
  have hmz:((m:Int)==0)=false:=by simp;omega
  rw[FavE,gTo,gTo,gTo,J2 l.2 _ i hlt,hmz,cond_false,Qan hx hm,gT (by simp only[Kq,K1m];omega),up1o i,J1,e,K2 hlt,Kj,K25];rfl
theorem Qcn(m:Nat)(hm:1≤m)(hm2:m≤1000)(l:DLI)(hl:l.2.length≤40000000)(hin:∀x∈l.2,0≤x∧x≤1600):∃b,F35 l (m:Int)=some (b,divL m l.2):=by
 obtain⟨b,e⟩:=Qie m hm hm2 l hl hin l.2.length 0 true [] (by omega) (by simp);have e':Fav (m:Int) (true,[]) l (l.2.length:Int) 0=_:=e;exact⟨b,by rw[F35E,e',J0,Kg,Kt]⟩
theorem Qdk(q:DQuestion)(hg:Q10 q.2.2.2=true)(l:DLI)(hl:l.2.length≤40000000)(hin:∀x∈l.2,0≤x∧x≤1600)(d:Nat):∀(i:Nat) (b:Bool) (o:List Int),i+d=l.2.length→o.length≤i→
  ∃b',(b=false→b'=false)∧Fcd q (b,o) l (l.2.length:Int) (i:Int)=some (b',o++divL (Q0 q.2.2.2) (l.2.drop i)):=by
 have hlim:=J4;have hm:=Qt hg
 induction d with
 |zero=>intro i b o hi ho;exact⟨b,fun h=>h,by rw[FcdE,gFo,K8 (by omega)];simp[divL]⟩
 |succ d ih=>
  intro i b o hi ho
  have hlt:i<l.2.length:=by omega
  have hx:=hin _ (K4 hlt);obtain⟨b',h1,e⟩:=ih (i+1) (b&&false) (o++[Int.tdiv l.2[i] (Q0 q.2.2.2:Int)]) (by omega) (by simp;omega);refine⟨b',fun _=>h1 (by simp),?_⟩
  have hmz:((Q0 q.2.2.2:Int)==0)=false:=by simp;omega
  have hgu:F9 q.2.2=some (Q0 q.2.2.2:Int):=Q6k q.2.2 hg;rw[FcdE,gTo,gTo,gTo,hgu,J0,J2 l.2 _ i hlt,hmz,cond_false,Qan hx hm.1,gT (by simp only[Kq,K1m];omega),up1o i,J1,e,K2 hlt,Kj,K25];rfl
theorem Q59(q:DQuestion)(hg:Q10 q.2.2.2=true)(l:DLI)(hl:l.2.length≤40000000)(hin:∀x∈l.2,0≤x∧x≤1600):F31 l q=some (false,divL (Q0 q.2.2.2) l.2):=by
 obtain⟨b,hb,e⟩:=Qdk q hg l hl hin l.2.length 0 false [] (by omega) (by simp);have e':Fcd q (false,[]) l (l.2.length:Int) 0=_:=e;rw[F31E,e',J0,Kg,Kt,hb rfl]
theorem Qd8(gv:Bool){q:DQuestion}(h:Asks q){v:DSight}(hv:Sees q.1 v.2)(hg:Q6 q.1 v.2=true)(hf:FitQ q v.2):
  ∃(res:Option (List Int×List Int)) (f1 f2:Bool),F1b q (gv,v.2)=some ((false,match res with|some (s,_)=>divL (Q0 q.2.2.2) s|none=>[]),((false,match res with|some (_,l)=>divL (Q0 q.2.2.2) l|none=>[]),res.isSome))∧
   F6u q v=some ((f1,match res with|some (s,_)=>divL (Q0 q.2.2.2) s|none=>[]),((f2,match res with|some (_,l)=>divL (Q0 q.2.2.2) l|none=>[]),res.isSome))∧
   ∀s l,res=some (s,l)→1≤l.length∧s.length≤28000∧l.length≤28000∧Int.tdiv ((s++l).getD 0 0) (Q0 q.2.2.2:Int)∈Qas q.1 v.2 q.1.2.2.1.2∧(∀x∈s,0≤x∧x<Q2w v.2*(Q0 q.2.2.2:Int))∧∀x∈l,0≤x∧x<Q2w v.2*(Q0 q.2.2.2:Int):=by
 obtain⟨f1,f2,f3,g1,g3,N,N',A,G,G',r1,r2,r3,r4,r5,r6,r7,hB⟩:=Qaz gv h hv hg hf;obtain⟨n,hn1,hn2,hn3⟩:=hB.wide;have hm:=Qt h.tr;have hmc:=Q3t v.2 hv.inn;have h1:=hB.one;have hmost:=hB.most
 have hG:Gr N'.length (N'.map Prod.snd):=⟨Kh _,fun l hl w hw=>by
  obtain⟨r,hr,rfl⟩:=Kx.1 hl
  exact(hB.rows r hr).2 w hw,fun l hl=>by
  obtain⟨r,hr,rfl⟩:=Kx.1 hl;have:=(hB.rows r hr).1
  omega,by omega⟩
 have hs:∀l∈N'.map Prod.snd,l.length≤2000:=fun l hl=>by
  obtain⟨r,hr,rfl⟩:=Kx.1 hl;have:=(hB.rows r hr).1;omega
 obtain⟨b1,b2,P,p1,p2,p3,p4⟩:=Qe7 h1 hG hs g1 f1 (R:=N') (R2:=N) rfl r3.symm
 have egg:gOf N'=gG (N'.map Prod.snd):=by funext x;rw[Q20 rfl];rfl
 rw[egg]at p4;have hP:Q3j N'.length (N'.map Prod.snd) P:=⟨p3,p4⟩
 have hQ1:∀r∈G',Q3g N'.length r.2∧r.2.length≤10000∧(r.1=true→r.2=[]):=fun r hr=>by
  obtain⟨a1,a2,a3⟩:=hB.goals r hr;exact⟨⟨by omega,a3⟩,by omega,fun hh=>by rw[a1]at hh;cases hh⟩
 have hfl:=hB.firstl;have hgl:=hB.goalsl;obtain⟨res,e1,e2,_,e4⟩:=Q8k h1 hG hs g1 f1 rfl r3.symm hP p1 p2 false f2 A (by omega) hB.first (fun hh=>by cases hh) g3 G' hQ1 (by omega) f3 G r4.symm
 have hlenN:N.length=N'.length:=by have:=congrArg List.length r3;rw[Kh,Kh]at this;exact this.symm
 have many1:F2p v=some (n:Int):=by rw[Qfy v (by have:=hv.manyV;omega) hv.inn,hn1]
 have hdiv:Int.tdiv (N.length:Int) (n:Int)=(Q0 q.2.2.2:Int):=by
  rw[hlenN,hn3];show((n*Q0 q.2.2.2 / n:Nat):Int)=_;rw[Nat.mul_div_cancel_left _ (by omega)]
 have hnz:((n:Int)==0)=false:=by simp;omega
 have hgl:=hB.goalsl
 cases hres:res with
 |none=>
  rw[hres]at e1 e2;have e1:F1d (g1,N') (false,A) (g3,G')=some ((true,[]),((true,[]),false)):=e1;have e2:Fo (f1,N) (f2,A) (f3,G)=some ((true,[]),((true,[]),false)):=e2;have c0:=Q59 q h.tr (true,[]) (by simp) (by simp);refine⟨none,true,true,?_,?_,fun s l hh=>by cases hh⟩
  ·rw[F1bE,r2,J0];simp only[e1,J0,c0];rfl
  ·rw[F6uE,r1,J0];simp only[e2,J0,K2e,cond_true];rfl
 |some sl=>
  obtain⟨s,l⟩:=sl;have hO:=e4 s l hres;rw[hres]at e1 e2;have e1:F1d (g1,N') (false,A) (g3,G')=some ((false,s),((false,l),true)):=e1;have e2:Fo (f1,N) (f2,A) (f3,G)=some ((false,s),((false,l),true)):=e2;have hsh:=hO.short;rw[Kh]at hsh
  have hsin:∀x∈s,0≤x∧x<(N'.length:Int):=fun x hx=>by
   have:=hO.inn x (by simp[hx]);rwa[Kh]at this
  have hlin:∀x∈l,0≤x∧x<(N'.length:Int):=fun x hx=>by
   have:=hO.inn x (by simp[hx]);rwa[Kh]at this
  have c1:=Q59 q h.tr (false,s) (by simp only;omega) (fun x hx=>by have:=hsin x hx;omega);have c2:=Q59 q h.tr (false,l) (by simp only;omega) (fun x hx=>by have:=hlin x hx;omega);obtain⟨d1,c3⟩:=Qcn (Q0 q.2.2.2) hm.1 (by omega) (false,s) (by simp only;omega) (fun x hx=>by have:=hsin x hx;omega);obtain⟨d2,c4⟩:=Qcn (Q0 q.2.2.2) hm.1 (by omega) (false,l) (by simp only;omega) (fun x hx=>by have:=hlin x hx;omega)
  have hw:i64.wrap (Int.tdiv (N.length:Int) (n:Int))=(Q0 q.2.2.2:Int):=by rw[hdiv,wr (by omega)]
  refine⟨some (s,l),d1,d2,?_,?_,fun s' l' hh=> ?_⟩
  ·rw[F1bE,r2,J0];simp only[e1,J0,c1,c2];rfl
  ·rw[F6uE,r1,J0];simp only[e2,J0,K5,cond_false,many1,hnz,hw,c3,c4];rfl
  ·simp only[K0,K6]at hh;obtain⟨rfl,rfl⟩:=hh
   have e5:(N'.length:Int)=Q2w v.2*(Q0 q.2.2.2:Int):=by rw[hn3,Int.natCast_mul,hn1]
   rw[←e5];have hpos:=hO.pos;have ht:=hO.tight;rw[Kh,Kh]at ht;have hmg:N'.length*(G'.length+1)≤1600*17:=Nat.mul_le_mul hmost (by omega);have hhd:=hO.head
   have e6:(s++l++[l.getD 0 0]).getD 0 0=(s++l).getD 0 0:=by
    rw[K1,Ko (by rw[Kf];omega),K1]
   rw[e6]at hhd;exact⟨hpos,by omega,by omega,hB.starts _ hhd,hsin,hlin⟩
theorem Qm2:∀(m:Nat) (f:Nat→Int),(∀k,k≤m→0≤f k∧f k<(m:Int))→∃k,k≤m∧∃i,i<k∧f k=f i:=by
 intro m
 induction m with
 |zero=>
  intro f h;have:=h 0 (Kz _);omega
 |succ m ih=>
  intro f h
  by_cases c:∃i,i<m+1∧f (m+1)=f i
  ·obtain⟨i,h1,h2⟩:=c;exact⟨m+1,Kz _,i,h1,h2⟩
  ·have hd:∀i,i<m+1→f (m+1)≠f i:=fun i h1 h2=>c ⟨i,h1,h2⟩
   have hlast:=h (m+1) (Kz _)
   obtain⟨k,hk,i,hi,e⟩:=ih (fun k=>if f k=(m:Int)then f (m+1)else f k) (fun k hk=>by
    have h1:=h k (by omega);have h2:=hd k (by omega)
    by_cases q:f k=(m:Int)
    ·simp only[if_pos q];omega
    ·simp only[if_neg q]
     omega)
   refine⟨k,by omega,i,hi,?_⟩;have h1:=hd k (by omega);have h2:=hd i (by omega)
   by_cases q:f k=(m:Int)
   ·by_cases q2:f i=(m:Int)
    ·rw[q,q2]
    ·simp only[if_pos q,if_neg q2]at e;exact absurd e h2
   ·by_cases q2:f i=(m:Int)
    ·simp only[if_neg q,if_pos q2]at e;exact absurd e.symm h1
    ·simp only[if_neg q,if_neg q2]at e;exact e
theorem Qjl{p:DProgram}(h:Ok p):∀(C:List (List Int)) (s:Int),(0≤s∧s<(Q4 p:Int))→∀x∈Q7k p s C,0≤x∧x<(Q4 p:Int):=by
 have hm:=Qa h.sml;intro C
 induction C with
 |nil=>intro s _ x hx;cases hx
 |cons c C ih=>
  intro s hs x hx
  have key:0≤((Qd p s).find? fun x=>c.any fun y=>y==x).getD 0∧((Qd p s).find? fun x=>c.any fun y=>y==x).getD 0<(Q4 p:Int):=by
   cases hf:(Qd p s).find? fun x=>c.any fun y=>y==x with
   |none=>exact⟨by simp,by simp;omega⟩
   |some y=>exact Q3z h hs y (K23 hf)
  rw[Q7k]at hx
  rcases Kd.1 hx with rfl|hx
  ·exact key
  ·exact ih _ key x hx
theorem Qhx{p:DProgram}:∀(A:List (List Int)) (c:List Int) (C:List (List Int)),canL p A=c::C→∀x∈c,∃l∈A,x∈l:=by
 intro A
 cases A with
 |nil=>intro c C h;cases h
 |cons l A=>
  intro c C h x hx
  cases hA:canL p A with
  |nil=>
   simp only[canL,hA,K10]at h;exact⟨l,Kk,by rw[h.1];exact hx⟩
  |cons d D=>
   rw[Q3k hA,K10]at h;exact⟨l,Kk,(K1e.1 (by rw[h.1];exact hx)).1⟩
theorem Qj8{p:DProgram}(h:Ok p)(A:List (List Int))(hA:∀l∈A,InS p l):∀x∈Q6v p A,0≤x∧x<(Q4 p:Int):=by
 have hm:=Qa h.sml;intro x hx;unfold Q6v at hx;split at hx
 ·cases hx
 ·rename_i c C e
  have hc:0≤c.getD 0 0∧c.getD 0 0<(Q4 p:Int):=by
   cases c with
   |nil=>exact⟨by simp,by simp;omega⟩
   |cons y c=>
    obtain⟨l,h1,h2⟩:=Qhx A _ _ e y Kk;exact(hA l h1).2 y h2
  rcases Kd.1 hx with rfl|hx
  ·exact hc
  ·exact Qjl h C _ hc x hx
theorem Qds{p:DProgram}(P:List Int)(hP:∀x∈P,0≤x∧x<(Q4 p:Int))(S0 L:Nat)(hL:1≤L)(hlen:P.length=S0+(Q4 p+1)*L)(hno:∀k,0≤k→S0+k*L<P.length→∀i,i<k→P.getD (S0+k*L) 0≠P.getD (S0+i*L) 0):False:=by
 have hlt:∀k,k≤Q4 p→S0+k*L<P.length:=fun k hk=>by
  have:=Kr L hk;rw[hlen,Nat.succ_mul];omega
 obtain⟨k,hk,i,hi,e⟩:=Qm2 (Q4 p) (fun k=>P.getD (S0+k*L) 0) (fun k hk=>by
  have h1:=hlt k hk;show 0≤P.getD (S0+k*L) 0∧P.getD (S0+k*L) 0<(Q4 p:Int);rw[K1,Ka h1]
  exact hP _ (K4 _))
 exact hno k (Nat.zero_le _) (hlt k hk) i hi e
theorem Q45{p:DProgram}{v:List Int}(h:Sees p v)(fv gv sb lb:Bool)(stem loop:DLI)(h1:stem.2.length≤28000)(h2:1≤loop.2.length)(h3:loop.2.length≤28000):
  ∃f1 f2 x y ok,F1s p (fv,v) stem loop=some ((f1,x),((f2,y),ok))∧F3y p (gv,v) (sb,stem.2) (lb,loop.2)=some ((f1,x),((f2,y),ok))∧x.length≤1000000∧y.length≤1000000∧(ok=false→Q27 (Qx p v (Q7 p p.2.2.1.2 0 (Q4 p)) (Q1c p stem.2 loop.2))≥0):=by
 have hlim:=J4;obtain⟨b1,e1⟩:=Qcq h.ok.sml stem loop h1 h3;obtain⟨b2,e2⟩:=Qjr h.ok.sml (sb,stem.2) (lb,loop.2) h1 h3 (by simp only;omega);have hrl:=Q3b h.ok.sml stem.2 loop.2 h1 h3
 have hr1:1≤(Q1c p stem.2 loop.2).length :=by
  rw[Q1c,Kf,List.replicate_succ,List.flatten_cons,Kf];omega
 obtain⟨b3,e3⟩:=Qcp h fv (b1,Q1c p stem.2 loop.2) (by simp only;omega);have e4:=(Q8j (Qx p v (Q7 p p.2.2.1.2 0 (Q4 p)) (Q1c p stem.2 loop.2)) (fun l=>l.isEmpty) b3 (by rw[Q14];omega)).2;have e5:=Qjb h gv (b2,Q1c p stem.2 loop.2) hr1 (by simp only;omega);rw[F1sE,F3yE,e1,J0,e2,J0];simp only[e3,e5,J0,e4]
 by_cases c:Q27 (Qx p v (Q7 p p.2.2.1.2 0 (Q4 p)) (Q1c p stem.2 loop.2))≥0
 ·rw[gT c];simp only[if_pos c];rw[F9vE,gF (by simp only[K1m];omega),J0];exact⟨true,true,[],[],false,rfl,rfl,by simp,by simp,fun _=>c⟩
 ·rw[gF c];simp only[if_neg c];obtain⟨a1,a2,a3,a4,a5⟩:=Q66 h (Q1c p stem.2 loop.2) hr1 c
  have hlen:(Q6v p (Qx p v (Q7 p p.2.2.1.2 0 (Q4 p)) (Q1c p stem.2 loop.2))).length =(Q1c p stem.2 loop.2).length :=by rw[Qad,Q14]
  rw[Qkt h.ok b3 _ a1 (by rw[Q14];omega) a2 a3 a4,J0];have hb:=Qe4 lb stem loop false (Q6v p (Qx p v (Q7 p p.2.2.1.2 0 (Q4 p)) (Q1c p stem.2 loop.2))) (by rw[hlen];omega) h2 (by omega) (Q1c p stem.2 loop.2).length 0 (by rw[hlen];omega);rw[Nat.zero_mul,K2d]at hb
  rcases hb with⟨x,y,r,g1,g2,g3,g4⟩|⟨r,g1,g2,gno⟩
  ·have g2':F9v (lb,loop.2) (false,Q6v p (Qx p v (Q7 p p.2.2.1.2 0 (Q4 p)) (Q1c p stem.2 loop.2))) (false,[]) (stem.2.length:Int)=_:=g2;simp only[g1,g2',J0];exact⟨false,false,x,y,true,rfl,rfl,by omega,by omega,fun h=>by cases h⟩
  ·exfalso;refine Qds (p:=p) _ (Qj8 h.ok _ a2) stem.2.length loop.2.length h2 ?_ gno;rw[hlen,Q1c,Kf,List.length_flatten,List.map_replicate,List.sum_replicate_nat]
theorem Qf7{v s:List Int}{j k:Nat}(hj:j<v.length)(hk:k<v.length)(h:(cutL v s).getD j 0=(cutL v s).getD k 0):v.getD j 0=v.getD k 0∧((j:Int)∈s↔(k:Int)∈s):=by
 unfold cutL at h;have hp:=(Qgo (Q43 v s) j k (by rw[Q2p];exact hj) (by rw[Q2p];exact hk)).1 h;simp only[Q43,List.getElem_mapIdx,K6]at hp;refine⟨?_,?_⟩
 ·rw[K1,Ka hj,K1,Ka hk];exact hp.1
 ·have h2:=hp.2
  by_cases a:(j:Int)∈s
  ·by_cases b:(k:Int)∈s
   ·exact⟨fun _=>b,fun _=>a⟩
   ·rw[if_pos a,if_neg b]at h2;omega
  ·by_cases b:(k:Int)∈s
   ·rw[if_neg a,if_pos b]at h2;omega
   ·exact⟨fun q=>absurd q a,fun q=>absurd q b⟩
theorem FitQ.cut{q:DQuestion}{v:List Int}(h:FitQ q v)(s:List Int):FitQ q (cutL v s):=by
 intro j k hj hk e;rw[Q34]at hj hk;exact h j k hj hk (Qf7 hj hk e).1
theorem Qee{p:DProgram}:∀(l:List DLN) (v:List Int),v.length=Q4 p→∀j k:Nat,j<Q4 p→k<Q4 p→(Q11 p v l).getD j 0=(Q11 p v l).getD k 0→v.getD j 0=v.getD k 0∧∀t∈l,Qs p t.2 (j:Int)=Qs p t.2 (k:Int):=by
 intro l
 induction l with
 |nil=>intro v hv j k hj hk h;exact⟨h,fun t ht=>by cases ht⟩
 |cons t l ih=>
  intro v hv j k hj hk h
  have hs:(Q46 p v t.2).length =Q4 p:=by rw[Q46,Q34,hv]
  obtain⟨h1,h2⟩:=ih (Q46 p v t.2) hs j k hj hk h;obtain⟨h3,h4⟩:=Qf7 (by omega) (by omega) h1;refine⟨h3,fun u hu=> ?_⟩
  rcases Kd.1 hu with rfl|hu
  ·rw[Q2d,Q2d]at h4;rw[K1w];exact⟨fun z=>(h4.1 ⟨⟨by omega,by omega⟩,z⟩).2,fun z=>(h4.2 ⟨⟨by omega,by omega⟩,z⟩).2⟩
  ·exact h2 u hu
theorem Qg9{p:DProgram}{j k:Int}:∀(l:List DLN) (i:Nat) (a:Int),(∀t∈l,Qs p t.2 j=Qs p t.2 k)→letL p j l i a=letL p k l i a:=by
 intro l
 induction l with
 |nil=>intro i a _;rfl
 |cons t l ih=>
  intro i a h;rw[letL,letL,h t Kk]
  exact ih _ _ fun u hu=>h u (K9 _ hu)
theorem Qat{q:DQuestion}(l:List DLN):FitQ q (Q11 q.1 (Q1t q.1) (q.2.1.2++l)):=by
 intro j k hj hk h;have hz:(Q1t q.1).length =Q4 q.1:=Kv
 have hlen:∀(m:List DLN) (v:List Int),(Q11 q.1 v m).length =v.length:=by
  intro m
  induction m with
  |nil=>intro v;rfl
  |cons t m ih=>
   intro v;have:Q11 q.1 v (t::m)=Q11 q.1 (Q46 q.1 v t.2) m:=rfl;rw[this,ih,Q46,Q34]
 rw[hlen,hz]at hj hk;have:=(Qee (q.2.1.2++l) (Q1t q.1) hz j k hj hk h).2
 exact Qg9 q.2.1.2 0 0 fun t ht=>this t (Ke _ ht)
theorem Qfc{p:DProgram}{v:List Int}(h:Sees p v)(fv gv b1 b2:Bool)(path:List Int)(hp:path.length≤1048576){a:Int}{r:List Int}(er:path=a::r)(ha:a∈Qas p v p.2.2.1.2)(hf:Q27 (Q1d p v path)≥0):
  ∃A:List Int,(∃b3 R4 n x,F18 p (fv,v) (b1,path)=some (b3,R4)∧F2z (b3,R4)=some n∧0≤i64.wrap (n-1)∧i64.wrap (n-1)<(R4.length:Int)∧F2h (fv,v) (R4.getD (toNat (i64.wrap (n-1))) (true,[]))=some (x,cutL v A))∧
   ∃d y,F78 p (gv,v) (b2,path)=some ((d,A),true)∧F49 (gv,v) (d,A)=some (y,cutL v A):=by
 have k1:F78 p (gv,v) (b2,path)=some (if Q27 (Q1d p v path)<1 then((true,[]),false)else((false,(Q1d p v path).getD ((Q27 (Q1d p v path)).toNat -1) []),true)):=Qi0 h gv (b2,path) hp;obtain⟨b,k2⟩:=Qcp h fv (b1,path) hp;have k2':F18 p (fv,v) (b1,path)=some (b,(Q1d p v path).map fun l=>(l.isEmpty,l)):=k2;have hd:=Qi1 h path;have hrl:(Q1d p v path).length =path.length:=Q14 p v path _;have hfi:=Qcg (Q1d p v path);have k3:=(Q8j (Q1d p v path) (fun l=>l.isEmpty) b (by omega)).2
 have c:¬Q27 (Q1d p v path)<1:=by
  rw[er]at hf⊢;exact Qfh v r ha hf
 rw[Qfd]at hd;generalize Q27 (Q1d p v path)=k at hf hfi hd c k3 k1;obtain⟨n,rfl⟩:∃n:Nat,k=((n+1:Nat):Int):=⟨(k-1).toNat,by omega⟩
 have hn:n<(Q1d p v path).length :=by omega
 have ew:i64.wrap (((n+1:Nat):Int)-1)=(n:Int):=by rw[wr (by omega)];omega
 rw[K3,Nat.add_sub_cancel]at hd
 have e:(Q1d p v path).getD n []=(Q1d p v path)[n]:=by simp[K1,hn]
 rw[e]at hd;obtain⟨x,y,m1,m2⟩:=Qfa h fv gv ((Q1d p v path)[n]).isEmpty false (Q1d p v path)[n] hd;refine⟨(Q1d p v path)[n],⟨b,_,_,x,k2',k3,by rw[ew];omega,by rw[ew,Kh];omega,?_⟩,false,y,?_,m2⟩
 ·rw[ew,K3,Q9s _ _ n hn];exact m1
 ·rw[k1,if_neg c,K3,Nat.add_sub_cancel,e]
theorem Qe9(p:DProgram)(m:Nat)(s l:List Int)(hl:1≤l.length):∃r,Q1c p (divL m s) (divL m l)=Int.tdiv ((s++l).getD 0 0) (m:Int)::r:=by
 cases s with
 |cons a s=>exact⟨_,rfl⟩
 |nil=>
  cases l with
  |nil=>simp at hl
  |cons a l=>
   refine⟨divL m l++(List.replicate (Q4 p) (divL m (a::l))).flatten,?_⟩;unfold Q1c;rw[List.replicate_succ,List.flatten_cons];rfl
theorem Qfg{q:DQuestion}(ha:Asks q)(hs:Qg q.1)(hw:WfP q.1)(t6:DOutcome)(B:Nat)(hB:B≤40)(n:Nat):∀(r:Nat) (fv gv:Bool) (v:List Int),r+n=B→Q6 q.1 v=true→FitQ q v→
  (∃code f1 f2 g1 g2 x y r' u w v',F8e (B:Int) q t6 (fv,v) (r:Int)=some (.inl (code,((f1,x),((f2,y),(r',((u,v'),true))))))∧F97 (B:Int) q t6 0 (true,[]) (true,[]) (r:Int) (gv,v)=some (code,((g1,x),((g2,y),(r',(w,v')))))∧x.length≤1000000∧y.length≤1000000∧Q6 q.1 v'=true)∨
  (∃u w v',F8e (B:Int) q t6 (fv,v) (r:Int)=some (.inr (t6,(u,v')))∧F97 (B:Int) q t6 0 (true,[]) (true,[]) (r:Int) (gv,v)=some (3,((true,[]),((true,[]),((B:Int),(w,v')))))∧Q6 q.1 v'=true):=by
 induction n with
 |zero=>
  intro r fv gv v hr hg hf;have h:=Q65 hg hs hw
  obtain rfl:r=B:=by omega
  obtain⟨res,f1,f2,e1,e2,e3⟩:=Qd8 gv (v:=(fv,v)) ha h hg hf;have e1':F1b q (gv,v)=_:=e1;rw[F8eE,F97E,gTo];simp only[e1',e2,J0]
  cases res with
  |none=>exact Or.inl ⟨1,true,true,true,true,[],[],(r:Int),fv,gv,v,rfl,rfl,by simp,by simp,hg⟩
  |some sl=>
   obtain⟨s,l⟩:=sl;obtain⟨k1,k2,k3,k4,_,_⟩:=e3 s l rfl;have ks:(divL (Q0 q.2.2.2) s).length =s.length:=Kh _;have kl:(divL (Q0 q.2.2.2) l).length =l.length:=Kh _;obtain⟨z1,z2,x,y,ok,m1,m2,m3,m4,m5⟩:=Q45 h fv gv false false (f1,divL (Q0 q.2.2.2) s) (f2,divL (Q0 q.2.2.2) l) (by simp only;omega) (by simp only;omega) (by simp only;omega);simp only[Option.isSome_some,K5,cond_false,m1,m2,J0]
   cases ok with
   |true=>exact Or.inl ⟨2,z1,z2,z1,z2,x,y,(r:Int),fv,gv,v,rfl,rfl,m3,m4,hg⟩
   |false=>
    simp only[cond_false,beq_self_eq_true,cond_true,gF (show¬(r:Int)<(r:Int) by omega)];refine Or.inr ⟨fv,gv,v,?_,rfl,hg⟩;rw[up1o r,F8eE,gFo];rfl
 |succ n ih=>
  intro r fv gv v hr hg hf;have h:=Q65 hg hs hw;obtain⟨res,f1,f2,e1,e2,e3⟩:=Qd8 gv (v:=(fv,v)) ha h hg hf;have e1':F1b q (gv,v)=_:=e1;rw[F8eE,F97E,gTo];simp only[e1',e2,J0]
  cases res with
  |none=>exact Or.inl ⟨1,true,true,true,true,[],[],(r:Int),fv,gv,v,rfl,rfl,by simp,by simp,hg⟩
  |some sl=>
   obtain⟨s,l⟩:=sl;obtain⟨k1,k2,k3,k4,_,_⟩:=e3 s l rfl;have ks:(divL (Q0 q.2.2.2) s).length =s.length:=Kh _;have kl:(divL (Q0 q.2.2.2) l).length =l.length:=Kh _;obtain⟨z1,z2,x,y,ok,m1,m2,m3,m4,m5⟩:=Q45 h fv gv false false (f1,divL (Q0 q.2.2.2) s) (f2,divL (Q0 q.2.2.2) l) (by simp only;omega) (by simp only;omega) (by simp only;omega);simp only[Option.isSome_some,K5,cond_false,m1,m2,J0]
   cases ok with
   |true=>exact Or.inl ⟨2,z1,z2,z1,z2,x,y,(r:Int),fv,gv,v,rfl,rfl,m3,m4,hg⟩
   |false=>
    have hne:((r:Int)==(B:Int))=false:=beqF (by omega);obtain⟨b1,g1⟩:=Qcq h.ok.sml (f1,divL (Q0 q.2.2.2) s) (f2,divL (Q0 q.2.2.2) l) (by simp only;omega) (by simp only;omega);obtain⟨b2,g2⟩:=Qjr h.ok.sml (false,divL (Q0 q.2.2.2) s) (false,divL (Q0 q.2.2.2) l) (by simp only;omega) (by simp only;omega) (by simp only;omega);have hrl:=Q3b h.ok.sml (divL (Q0 q.2.2.2) s) (divL (Q0 q.2.2.2) l) (by omega) (by omega);obtain⟨rr,er⟩:=Qe9 q.1 (Q0 q.2.2.2) s l k1;obtain⟨A,⟨b3,R4,nn,xx,w1,w2,w3,w4,w5⟩,d,yy,w6,w7⟩:=Qfc h fv gv b1 b2 (Q1c q.1 (divL (Q0 q.2.2.2) s) (divL (Q0 q.2.2.2) l)) (by omega) er k4 (m5 rfl);simp only[cond_false,hne,gT (show(r:Int)<(B:Int) by omega),F7rE,g1,g2,w1,w2,w6,w7,J0,gT w3,gT w4,K5,J1,up1 r (show r<4611686018427387904 by omega)];have w5':F2h (fv,v) (R4.getD (toNat (i64.wrap (nn-1))) (true,[]))=_:=w5;simp only[w5',J0];exact ih (r+1) xx yy (cutL v A) (by omega) (Q9i hg _) (hf.cut A)
theorem Qi4(q:DQuestion)(h:LawQ q)(preds:DRN)(hx:∀t∈preds.2,WfN t.2)(budget:Int):
  ∃code f1 f2 g1 g2 x y r u w v ok,F34 q preds budget=some (code,((f1,x),((f2,y),(r,((u,v),ok)))))∧F5y q preds budget=some (code,((g1,x),((g2,y),(r,((w,v),ok)))))∧x.length≤1048576∧y.length≤1048576∧v.length≤1048576:=by
 have hlaw:=h;obtain⟨hs,hw,ht⟩:=h
 have none':∃code f1 f2 g1 g2 x y r u w v ok,(some (0,((true,[]),((true,[]),(0,((true,[]),false))))):Option (Int×DLI×DLI×Int×DLI×Bool))=some (code,((f1,x),((f2,y),(r,((u,v),ok)))))∧(some (0,((true,[]),((true,[]),(0,((true,[]),false))))):Option (Int×DLI×DLI×Int×DLI×Bool))=some (code,((g1,x),((g2,y),(r,((w,v),ok)))))∧x.length≤1048576∧y.length≤1048576∧v.length≤1048576:=
  ⟨0,true,true,true,true,[],[],0,true,true,[],false,rfl,rfl,by simp,by simp,by simp⟩
 rw[F34E,F5yE,Qed q hs.prog hw ht,Qdu q hs.prog,J0,J0,Qio q.1 preds hx,Qcc q.1 preds 0,J0,J0,decide_eq_true (show(preds.2.length:Int)≥0 by omega),Ky,Q2g,J0,F6qE]
 cases hq:isQ q with
 |false=>exact none'
 |true=>
  cases hp:Q3n q.1 (preds.2.map Prod.snd)with
  |false=>exact none'
  |true=>
   rw[K5,cond_false,cond_false,cond_false,cond_false]
   by_cases c:0≤budget∧budget≤40
   ·rw[decide_eq_true c,gT c.1,J0,decide_eq_true c.2,K5,cond_false,cond_false];have ha:=Qk6 hq hs.prog hw ht;have hq':=hq;simp only[isQ,K7,decide_eq_true_eq]at hq';obtain⟨q1,q2,q3,q4⟩:=hq';simp only[Q3n,K7,decide_eq_true_eq,Kh]at hp;obtain⟨p1,p2⟩:=hp;rw[K11]at q4 p2;have hok:=Qk8 q1 hs.prog hw
    have t1:∀t∈q.2.1.2,WfN t.2∧(Qb q.1.1 q.1.2.1 t.2==2)=true:=fun t hm=>⟨ht t hm,q4 t hm⟩
    have t2:∀t∈preds.2,WfN t.2∧(Qb q.1.1 q.1.2.1 t.2==2)=true:=fun t hm=>⟨hx t hm,p2 t.2 (K1j hm)⟩
    obtain⟨c1,e1⟩:=Qm9 hok q1 q.2.1 (by omega) t1;have hg:=Q5t q.2.1.2 (Q1t q.1) (Q3f q1);obtain⟨c2,e2⟩:=Qfz (q:=q) hok (true,[]) preds (by omega) t2 preds.2.length 0 c1 (Q11 q.1 (Q1t q.1) q.2.1.2) (by omega) hg;rw[Kg]at e2;have e2':Fcb q (true,[]) (c1,Q11 q.1 (Q1t q.1) q.2.1.2) preds (preds.2.length:Int) 0=_:=e2;obtain⟨b,e3⟩:=Qb1 (false,[q.2.1,preds]) (by simp only[K12,List.map_nil,List.sum_cons,List.sum_nil];omega) (by simp)
    have e3':F1v (false,[q.2.1,preds])=some (b,q.2.1.2++preds.2):=by rw[e3];simp
    obtain⟨c3,e4⟩:=Ql7 hok q1 (b,q.2.1.2++preds.2) (by simp only[Kf];omega) (fun t hm=>by
     rcases Kl.1 hm with hm|hm
     ·exact t1 t hm
     ·exact t2 t hm)
    have hsp:∀(l m:List DLN) (v:List Int),Q11 q.1 v (l++m)=Q11 q.1 (Q11 q.1 v l) m:=by
     intro l
     induction l with
     |nil=>intro m v;rfl
     |cons t l ih=>intro m v;exact ih m _
    have hgood:=Q5t (q.2.1.2++preds.2) (Q1t q.1) (Q3f q1);have hfit:=Qat (q:=q) preds.2;rw[←hsp]at e2';have hms:=Qa hok.sml;obtain⟨B,rfl⟩:=Kc c.1
    have sFor:F3u q preds=some (c2,Q11 q.1 (Q1t q.1) (q.2.1.2++preds.2)):=by
     rw[F3uE,e1,J0];simp only[e2',J0]
    rw[sFor,J0,F3tE,e3',J0];simp only[e4,J0]
    rcases Qfg ha hs.prog hw (0,((true,[]),((true,[]),(0,(true,[]))))) B (by omega) B 0 c2 c3 _ (by omega) hgood hfit with⟨code,f1,f2,g1,g2,x,y,r,u,w,v,m1,m2,m3,m4,m5⟩|⟨u,w,v,m1,m2,m3⟩
    ·have m1':F8e (B:Int) q (0,((true,[]),((true,[]),(0,(true,[]))))) (c2,Q11 q.1 (Q1t q.1) (q.2.1.2++preds.2)) 0=_:=m1;have m2':F97 (B:Int) q (0,((true,[]),((true,[]),(0,(true,[]))))) 0 (true,[]) (true,[]) 0 (c3,Q11 q.1 (Q1t q.1) (q.2.1.2++preds.2))=_:=m2;have hv:=(Q2o m5).2.1;simp only[m1',m2',J0];exact⟨code,f1,f2,g1,g2,x,y,r,u,w,v,true,rfl,rfl,by omega,by omega,by omega⟩
    ·have m1':F8e (B:Int) q (0,((true,[]),((true,[]),(0,(true,[]))))) (c2,Q11 q.1 (Q1t q.1) (q.2.1.2++preds.2)) 0=_:=m1;have m2':F97 (B:Int) q (0,((true,[]),((true,[]),(0,(true,[]))))) 0 (true,[]) (true,[]) 0 (c3,Q11 q.1 (Q1t q.1) (q.2.1.2++preds.2))=_:=m2;have hv:=(Q2o m3).2.1;simp only[m1',m2',J0];exact⟨3,true,true,true,true,[],[],(B:Int),u,w,v,true,rfl,rfl,by simp,by simp,by omega⟩
   ·rw[decide_eq_false c,K2e,cond_true]
    by_cases c1:budget≥0
    ·rw[gT c1,J0,decide_eq_false (by omega),K2e,cond_true];exact none'
    ·rw[gF c1,J0,K2e,cond_true];exact none'
theorem Q62(x0:DQuestion)(x1:DRN)(x2:Int)(w0:WfD tyQuestion x0)(w1:WfD (.sl (.sl tyNode)) x1)(w2:WfD (.int .i64) x2):Fcj x0 x1 x2=some true:=by
 obtain⟨v1,v2,v3⟩:=Q91 w1;rw[FcjE];obtain⟨r0,e0,h0⟩:=Qeg x0 w0 1048576 (by omega);rw[e0,J0]
 rcases h0 with h0|⟨h0,h1,hs⟩
 ·rw[gT h0]
 obtain⟨r1,e9,h9⟩:=Qd6 x1 r0 (by omega) v1 v2;rw[gFo,e9,J0]
 rcases h9 with h9|⟨h9,h8,hs1⟩
 ·rw[gT h9]
 have hs2:=Q9a hs1;rw[gFo,Qei x0 hs,J0,Qd7 x1 hs1,J0];obtain⟨code,f1,f2,g1,g2,x,y,r,u,w,v,ok,e1,e2,hX,hY,hV⟩:=Qi4 (cpQ x0) (Qk7 w0 hs) (false,Q28 x1.2) v3 x2;have e1':F34 (((Q9 x0.1).1,(Q9 x0.1).2.1,(false,(Q9 x0.1).2.2.1.2),(false,(Q9 x0.1).2.2.2.2)),(false,Q28 x0.2.1.2),(false,x0.2.2.2)) (false,Q28 x1.2) x2=_:=e1;have e2':F5y (((Q9 x0.1).1,(Q9 x0.1).2.1,(false,(Q9 x0.1).2.2.1.2),(false,(Q9 x0.1).2.2.2.2)),(false,Q28 x0.2.1.2),(false,x0.2.2.2)) (false,Q28 x1.2) x2=_:=e2;have e3:F8x (((Q9 x0.1).1,(Q9 x0.1).2.1,(false,(Q9 x0.1).2.2.1.2),(false,(Q9 x0.1).2.2.2.2)),(false,Q28 x0.2.1.2),(false,x0.2.2.2)) (((Q9 x0.1).1,(Q9 x0.1).2.1,(false,(Q9 x0.1).2.2.1.2),(false,(Q9 x0.1).2.2.2.2)),(false,Q28 x0.2.1.2),(false,x0.2.2.2))=some true:=Q6g (cpQ x0) (Qer hs);obtain⟨a,b,c,d,k,e4,e5,e6⟩:=Qa8 (cpQ x0) (Qer hs);have e4':F7a (Q9 x0.1).1 (Q9 x0.1).2.1 (false,(Q9 x0.1).2.2.1.2) (false,(Q9 x0.1).2.2.2.2) (false,Q28 x0.2.1.2) (false,x0.2.2.2) 1=_:=e4;have hz2:=Q47 hs2
 have q1:F5r (code,((g1,x),((g2,y),(r,(w,v))))) (code,((f1,x),((f2,y),(r,(u,v)))))=some true:=by
  rw[F5rE];simp only[bne_self_eq_false,cond_false,Q49 g1 f1 x hX,Q49 g2 f2 y hY,J0,K5,Q9m w u v hV]
 have q2:=Q4s false false _ _ hs2 rfl;have m2:=Q7v false (Q28 x1.2) k hs2 (by omega) (by omega)
 have m4:F73 code (g1,x) (g2,y) r (w,v) 1=some ((g1,Q1o 1 x.length),((g2,Q1o (1+(x.length:Int)) y.length),((w,Q1o (1+(x.length:Int)+(y.length:Int)) v.length),1+(x.length:Int)+(y.length:Int)+(v.length:Int)))):=by
  rw[F73E,Q8v g1 x 1 hX (by omega) (by omega),J0];simp only[Q8v g2 y (1+(x.length:Int)) hY (by omega) (by omega),Qge w v (1+(x.length:Int)+(y.length:Int)) hV (by omega) (by omega),J0]
 have k1:F5z (code,((g1,Q1o 1 x.length),((g2,Q1o (1+(x.length:Int)) y.length),(r,(w,Q1o (1+(x.length:Int)+(y.length:Int)) v.length))))) 1=some (1+(x.length:Int)+(y.length:Int)+(v.length:Int)):=by
  rw[F5zE];simp only[Q8n g1 x.length 1 hX (by omega) (by omega),J0];rw[gFo];simp only[Q8n g2 y.length (1+(x.length:Int)) hY (by omega) (by omega),J0];rw[gFo];simp only[Qft w v.length (1+(x.length:Int)+(y.length:Int)) hV (by omega) (by omega),J0];rw[gFo]
 simp only[e1',e2',J0,q1,q2,beq_self_eq_true,bne_self_eq_false,K5,cond_false,e3,e4',m2,m4,k1,gF (show¬k+2*(Q2q (Q28 x1.2):Int)<0 by omega),gF (show¬(1+(x.length:Int)+(y.length:Int)+(v.length:Int))<0 by omega)]

end Go.Proofs.YtedfhboklcfanaaGreat.R
