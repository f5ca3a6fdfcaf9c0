/- An evaluator over the code of the given program,and its soundness:part 2. -/
import Derived.Test.YtedfhboklcfanaaGreatRfA
import Derived.Laws.StructEq
import Derived.ChangeKeysEq
import Derived.MapKept
set_option linter.all false
namespace Go.Rf
section
variable {P:Program} {H:Hints} {w w':World} {S:Nat→Prop} {hv:Nat→Value} {F:Nat→Nat→Prop} {g gl:Look}
theorem Jdv{c:Nat}{p:List Step}{v:Value}(h:VR w S hv g (.ptr c p) v):g c≠none∧v=adr (hv c) (J3 p)∧Jdx (hv c)∧J3w g c p:=by
 rw[J8 rfl]at h;simp only[CRep,K10,and_true]at h;exact h
theorem Jcc{c i sz:Nat}{q:List Step}{r:Rg}{n:Nat}(hc:g c=some r)(hn:r.len=some n)(h:J3w g c (.el i sz::q)):i<n:=by
 unfold J3w at h;exact h n (by simp[glen,hc,hn])
theorem Res.mono{r:Result Next}{Post Post':Value→World→Prop}(h:Res P r Post)(hp:∀v w,Post v w→Post' v w):Res P r Post':=by
 cases r with
 |ok x w'=>
  cases x<;>simp only[Res]at h⊢<;>try (exact hp _ _ h)
  case enter f args=>exact h.mono fun e w'' ⟨v,he,h'⟩=>⟨v,he,hp _ _ h'⟩
  all_goals exact h
 |halt x w'=>exact h
theorem Jcy(hf:Fit P H)(hI:Inv w S hv F g)(hl:∀c r,gl c=some r→g c=some r)(o:Oper)(ρ:Operand→Value)(E:Nat)(x:Operand)(ho:o.op= .load E x){ag:Bool×Nat}(hE:agOf H E=some ag)
  {d:Nat}(hd:gl d=none→g d=none){a:SV}(hx:VR w S hv g a (ρ x)){e:Eff}(he:(Jge gl d ag a).run =some e):Res P ((execOp ρ o).run P w) (Out w S hv F g e):=by
 have done:∀(y:SV) (upd:List (Nat×Rg)) (e:Eff),(match decide (y.ag=some ag)with
  |true=>(M.ret ⟨y,upd⟩:M Eff)
  |false=> .fail).run =some e→y.ag=some ag∧e=⟨y,upd⟩:=by
  intro y upd e h;split at h
  ·rename_i h';simp only[M.run,K0]at h;exact⟨of_decide_eq_true h',h.symm⟩
  ·simp[M.run]at h
 unfold Jge at he
 cases a with
 |sp t y=>
  obtain⟨h1,rfl⟩:=done _ _ _ he;rw[J8 rfl]at hx;simp only[CRep,K10,and_true]at hx;obtain⟨b,off,cs,hx,hb,hr,hc⟩:=hx;exact J3e hf hI o ρ E x ho hE hx hr h1 (by simpa only[CRep]using hc)
 |ptr c p=>
  replace hx:=Jdv hx
  obtain⟨hg,hx,hbs,hin⟩:=hx;simp only at he;split at he
  ·
   rename_i b hc;split at he
   rotate_left
   ·simp[M.run]at he
   rename_i y hy;obtain⟨h1,rfl⟩:=done _ _ _ he;have hr:=hI.rep c _ (hl _ _ hc);simp only[GRep]at hr;obtain⟨bl,arr,T,e1,e2,e3,e4⟩:=hr;obtain⟨c1,c2,c3,f1,f2,f3⟩:=J5j p b y _ hy e4
   have hrd:rd w bl 0 (c1++(c2++c3)):=by
    intro j v hj;simp only[K1o,World.cell?,e2];rw[←f1]at hj;simpa using hj
   rw[e1,Jac]at hx;exact J3e hf hI o ρ E x ho hE (by rw[hx,←f2]) (J9o hrd) h1 f3
  ·
   rename_i t y hc;split at he
   rotate_left
   ·simp[M.run]at he
   rename_i z hz;obtain⟨h1,rfl⟩:=done _ _ _ he;have hr:=hI.rep c _ (hl _ _ hc);simp only[GRep]at hr;obtain⟨bl,cs,e1,e2,e3,e4⟩:=hr;obtain⟨c1,c2,c3,rfl,f2,f3⟩:=J4o p t y cs z hz e4;rw[e1,Jac]at hx;exact J3e hf hI o ρ E x ho hE (by rw[hx,←f2]) (J9o e3) h1 (by simpa only[CRep]using f3)
  ·
   rename_i t y hc;split at he
   rotate_left
   ·simp[M.run]at he
   rename_i i sz q;split at he
   rotate_left
   ·simp[M.run]at he
   rename_i z hsz hz;obtain⟨h1,rfl⟩:=done _ _ _ he
   have hsz:sz=size t:=by simpa using hsz
   subst hsz;have hgc:=hl _ _ hc;have hr:=hI.rep c _ hgc;simp only[GRep,Rep]at hr;have hi:i<y.2.length:=Jcc hgc rfl hin
   rcases hr.2 with⟨_,h2,_⟩|⟨_,b,off,cap,k1,k2,k3,k4⟩|⟨_,h2,_⟩
   ·simp[h2]at hi
   rotate_left
   ·simp[h2]at hi
   have hxi:y.2[i]? =some y.2[i]:=by simp[hi]
   rw[J12 hxi]at hz;obtain⟨_,cs,m1,m2,m3⟩:=k4 i _ hxi;obtain⟨c1,c2,c3,rfl,f2,f3⟩:=J4o q t _ cs z hz m3;simp only[K10,and_true]at k1;rw[k1,J3c]at hx;exact J3e hf hI o ρ E x ho hE (off:=off+i*size t+c1.length) (by rw[hx];simp[J3,Step.off,f2,K1h]) (J9o m2) h1 (by simpa only[CRep]using f3)
  ·
   rename_i r hbox hfzb hfz hc;split at he
   rotate_left
   ·simp[M.run]at he
   rename_i t dp n xs gs i sz q hset;split at he
   rotate_left
   ·simp[M.run]at he
   rename_i u y hsz hz
   have hsz:sz=size t:=by simpa using hsz
   subst hsz;have hgc:=hl _ _ hc
   have hmid:∃S1 hv1 F1 g1,Step' w S hv F g w S1 hv1 F1 g1∧g1=(if gs=[]then g else J5 g ((c,.row t dp n xs)::gs.map fun e=>(e,Rg.gone)))∧g1 c=some (.row t dp n xs):=by
    cases gs with
    |nil=>
     refine⟨S,hv,F,g,Step'.refl hI,by simp,?_⟩
     rcases J34 hset with⟨_,h⟩|⟨_,_,_,_,_,_,_,_,_,_,_,_,_,_,_,_,h⟩
     ·rw[h];exact hgc
     ·cases h
    |cons k ks=>
     obtain⟨S1,hv1,F1,h⟩:=J42 hI hl hgc hset (by simp);exact⟨S1,hv1,F1,_,h,by simp,by rw[J7];simp⟩
   obtain⟨S1,hv1,F1,g1,hst,hg1,hc1⟩:=hmid;have hx1:=hst.ext;have hxv:hv1 c=hv c:=hx1.hv c hg;have hin1:=J4n hx1 hg hin;have hi:i<xs.length:=Jcc hc1 rfl hin1;split at he
   ·
    rename_i hfd;obtain⟨h1,rfl⟩:=done _ _ _ he;have ho1:=Jfl hf hst.inv o ρ E x ho hE (d:=⟨u,y⟩) hc1 (by rw[hx,hxv]) hi hz hfd h1
    refine Res.mono ho1 fun v w' h=> ?_
    refine Out.after (e:=⟨.v u y,[]⟩) hst ?_ rfl h;rw[hg1];cases gs<;>rfl
   ·
    rename_i hfd;split at he
    rotate_left
    ·simp[M.run]at he
    rename_i u y hz;obtain⟨hgd,he⟩:=J1q he;obtain⟨h1,rfl⟩:=done _ _ _ he
    have hdp:dp=true:=by
     cases dp<;>simp at hfd⊢
    subst hdp;have hgd':=hd hgd
    have hd1:g1 d=none:=by
     rw[hg1]
     cases gs with
     |nil=>exact hgd'
     |cons k ks=>
      have:d≠c:=by rintro rfl;exact hg hgd'
      rw[if_neg (by simp),J7,if_neg this,Jq,if_neg]
      ·exact hgd'
      ·intro hm
       rcases J34 hset with⟨h,_⟩|⟨_,_,_,_,_,k',_,_,_,_,_,_,h2,_,_,_,h3⟩
       ·cases h
       ·rw[h3]at hm;simp at hm;subst hm;rw[hgd]at h2;cases h2
    have ho1:=Jek hf hst.inv o ρ E x ho hE hc1 hd1 (by rw[hx,hxv]) hi hz h1
    refine Res.mono ho1 fun v w' h=> ?_
    refine Out.after (e:=⟨.ref d,[(c,_),(d,_)]⟩) hst ?_ rfl h;rw[hg1]
    cases gs with
    |nil=>rfl
    |cons k ks=>
     funext z;rw[if_neg (by simp)];simp only[J7,Jq,J10]
     by_cases hzc:z=c
     ·simp[hzc]
     ·simp[hzc]
  ·simp[M.run]at he
 |_=>simp[M.run]at he
end
end Go.Rf
namespace Go.Rf
section
variable {P:Program} {H:Hints} {w w':World} {S:Nat→Prop} {hv:Nat→Value} {F:Nat→Nat→Prop} {g gl:Look}
def seg(arr:Array Value)(off:Nat)(c:List Value):Array Value:=(arr.toList.take off++c++arr.toList.drop (off+c.length)).toArray
theorem J8v{arr:Array Value}{off:Nat}{c:List Value}(h:off+c.length≤arr.size):(seg arr off c).size =arr.size:=by
 simp[seg];omega
theorem Jew{arr:Array Value}{off j:Nat}{c:List Value}(h:off+c.length≤arr.size)(hj:j<c.length):(seg arr off c)[off+j]? =c[j]? :=by
 have hl:(arr.toList.take off).length =off:=by simp;omega
 unfold seg;simp only[List.getElem?_toArray,Kj];rw[Ks (by omega),Ko (by omega)];congr 1;omega
theorem J4y{arr:Array Value}{off k:Nat}{c:List Value}(h:off+c.length≤arr.size)(hk:k<off∨off+c.length≤k):(seg arr off c)[k]? =arr[k]? :=by
 have hl:(arr.toList.take off).length =off:=by simp;omega
 unfold seg;simp only[List.getElem?_toArray,Kj]
 rcases hk with hk|hk
 ·rw[Ko (by omega),K2c hk];simp
 ·rw[Ks (by omega),Ks (by omega),List.getElem?_drop]
  have:off+c.length+(k-(arr.toList.take off).length -c.length)=k:=by omega
  rw[this];simp
theorem J1t{b o:Nat}{arr:Array Value}{T:Nat}{cs:List Value}(h:w.heap[b]? =some (.cells arr T (0,0))):rd w b o cs↔∀j v,cs[j]? =some v→arr[o+j]? =some v:=by
 unfold rd;simp[World.cell?,h]
theorem J9v(hf:Fit P H){T:Nat}{ag:Bool×Nat}(h:agOf H T=some ag){b o:Nat}{arr:Array Value}{U:Nat}(hb:w.heap[b]? =some (.cells arr U (0,0))){v:Value}{cs:List Value}(hv:v.cells.toList=cs)(hl:cs.length=ag.2)(h1:∀v∈cs,v.oneCell'=true)(hs:o+cs.length≤arr.size):
  (storeVar T ⟨b,o,none⟩ v).run P w= .ok () (w.setRow b (seg arr o cs)):=by
 obtain⟨_,hsz⟩:=Jfy (w:=w) hf h;have hc:=run_storeCells_at P b o U cs 0 arr w hb (by simpa using hs) h1;unfold storeVar
 have:v.cells.size=ag.2:=by rw[←hl,←hv];simp
 simp[hsz,this,hv,hc,seg]
theorem J50(hf:Fit P H)(o:Oper)(ρ:Operand→Value)(E:Nat)(x y:Operand)(ho:o.op= .store E x y){ag:Bool×Nat}(hE:agOf H E=some ag){b off:Nat}(hx:ρ x= .pointer (some ⟨b,off,none⟩)){arr:Array Value}{U:Nat}(hb:w.heap[b]? =some (.cells arr U (0,0)))
  {cs:List Value}(hv:(ρ y).cells.toList =cs)(hl:cs.length=ag.2)(h1:∀v∈cs,v.oneCell'=true)(hs:off+cs.length≤arr.size):(execOp ρ o).run P w= .ok .skip (w.setRow b (seg arr off cs)):=by
 unfold execOp;simp[ho,hx,Instr.storeAt,Instr.sureAddr,J9v hf hE hb hv hl h1 hs]
theorem J88{r:Result Next}{w':World}{Post:Value→World→Prop}(h:r= .ok .skip w')(hp:Post undef w'):Res P r Post:=by subst h;exact hp
theorem Jx(w:World)(b:Nat)(cs:Array Value):(w.setRow b cs).heap.size =w.heap.size:=by simp[World.setRow]
theorem Jf1(hf:Fit P H)(hI:Inv w S hv F g)(o:Oper)(ρ:Operand→Value)(E:Nat)(x y:Operand)(ho:o.op= .store E x y){ag:Bool×Nat}(hE:agOf H E=some ag){c:Nat}{p:List Step}{b b' z:SV}(hc:g c=some (.box b))
  (hx:VR w S hv g (.ptr c p) (ρ x))(hz:VR w S hv g z (ρ y))(ha:z.ag=some ag)(hb':SV.set b p z=some b'):Res P ((execOp ρ o).run P w) (Out w S hv F g ⟨.unit,[(c,.box b')]⟩):=by
 obtain⟨_,hx,_,_⟩:=Jdv hx;obtain⟨cs,_,hcs,hl,hcv⟩:=J1x ha hz;have hr:=hI.rep c _ hc;simp only[GRep]at hr;obtain⟨bl,arr,T,e1,e2,e3,e4⟩:=hr;obtain⟨c1,c2,c3,f1,f2,f3,f4⟩:=Jbl p b b' z _ cs hb' e4 hcs;rw[e1,Jac]at hx
 have hsz:arr.size=c1.length+(c2.length+c3.length):=by
  have:=congrArg List.length f1;simpa using this
 have hfit:0+J3 p+cs.length≤arr.size:=by omega
 have hrun:=J50 (w:=w) hf o ρ E x y ho hE hx e2 hcv hl (J5k _ _ hcs) hfit
 have hseg:(seg arr (0+J3 p) cs).toList =c1++(cs++c3):=by
  unfold seg
  have hd:List.drop (J3 p+cs.length) arr.toList=c3:=by
   rw[f1,←f2,←f3,←Kj,←Kf,List.drop_left]
  have ht:List.take (J3 p) arr.toList=c1:=by rw[f1,←f2,List.take_left]
  simp[K1o,ht,hd]
 refine J88 hrun ?_
 have hs:=J30 (w':=w.setRow bl (seg arr (0+J3 p) cs)) (r:= .box b') (v:=hv c) (gs:=[]) (fs:=[]) (Fd:=F c) (Q:=fun _=>False) (gl:=g) (d:=c) hI (fun _ _ h=>h) (fun _=>rfl) (fun n _ h=>by simp[Rg.len]at h) (.inl rfl) (by simp) (by simp) (by simp) (by simp) (by simp)
  (by rw[Jx];exact Kz _) (fun b hb hn=>setRow_other _ _ _ _ (fun h=>hn ⟨c,by simp,h▸e3⟩)) (fun b hb=>⟨.inl ⟨c,by simp,hb⟩,by rw[Jx];exact hI.old c b hb⟩) (fun _ h=>h.elim) (by
   intro hE;simp only[GRep,if_true];refine⟨bl,seg arr (0+J3 p) cs,T,e1,setRow_heap w bl arr _ T _ e2,e3,?_⟩;rw[hseg]
   exact J27 hE _ _ _ f4)
 exact Out.mk (by simpa[frozen]using J16 g g c (.box b') [] []) hs rfl
end
end Go.Rf
namespace Go.Rf
section
variable {P:Program} {H:Hints} {w w':World} {S:Nat→Prop} {hv:Nat→Value} {F:Nat→Nat→Prop} {g gl:Look}
def PutD(w:World)(t:Ty)(x:Den t)(q:List Step)(G:Nat→Prop)(cs:List Value):Prop:=
 ∀(d:D) (G2:Nat→Prop) (c:List Value) (y:Den t),Den.set t x q d=some y→DRep w d.1 d.2 G2 c→(∀b,G b→G2 b→False)→
  ∃c1 c2 c3,cs=c1++(c2++c3)∧c1.length=J3 q∧c2.length=c.length∧DRep w t y (fun b=>G b∨G2 b) (c1++(c++c3))
def PutR(w:World)(S:Nat→Prop)(t:Ty)(x:Den t)(q:List Step)(cs:List Value):Prop:=
 ∀(d:D) (c:List Value) (y:Den t),Den.set t x q d=some y→Rep w S false d.1 d.2 c→
  ∃c1 c2 c3,cs=c1++(c2++c3)∧c1.length=J3 q∧c2.length=c.length∧Rep w S false t y (c1++(c++c3))
def Jcm(w:World)(S:Nat→Prop)(v:Value)(Fc:Nat→Prop)(dp:Bool)(t:Ty)(n:Bool)(xs:List (Den t))(i:Nat)(q:List Step)(b o:Nat):Prop:=
 n=false∧∃(cap:Nat) (arr:Array Value) (T:Nat) (G:Nat→Nat→Prop),v= .slice (some ⟨b,o,none⟩) xs.length cap∧xs.length≤cap∧xs.length≤big∧
  w.heap[b]? =some (.cells arr T (0,0))∧o+cap*size t≤arr.size∧Fc b∧(∀i b',G i b'→Fc b'∧b'≠b)∧(∀i j b',G i b'→G j b'→i=j)∧
  (∀j e,j≠i→xs[j]? =some e→∃c,c.length=size t∧rd w b (o+j*size t) c∧ERep w S dp t e (G j) c)∧
  ∃c,c.length=size t∧rd w b (o+i*size t) c∧(dp=true→PutD w t (xs.getD i (dflt t)) q (G i) c)∧∀S':Nat→Prop,(∀b,S b→S' b)→(dp=true→∀b,G i b→S' b)→PutR w S' t (xs.getD i (dflt t)) q c
theorem Jfx{v:Value}{Fc:Nat→Prop}{dp n:Bool}{t:Ty}{xs:List (Den t)}{i:Nat}(h:RowB w (ERep w S dp t) (size t) n xs Fc v)(hi:i<xs.length)(q:List Step):∃b o,Jcm w S v Fc dp t n xs i q b o:=by
 rcases h with⟨_,h2,_⟩|⟨h0,b,o,cap,arr,T,G,h1,h2,h3,h4,h5,h6,h7,h8,h9⟩
 ·simp[h2]at hi
 have hx:xs[i]? =some xs[i]:=by simp[hi]
 obtain⟨c,k1,k2,k3⟩:=h9 i _ hx;refine⟨b,o,h0,cap,arr,T,G,h1,h2,h3,h4,h5,h6,h7,h8,fun j e _ he=>h9 j e he,c,k1,k2,?_,?_⟩
 ·rintro rfl d G2 c' y hy hd hdj
  rw[J12 hx]at hy;exact Jf7 q t _ y (G i) G2 c d c' hy k3 hd hdj
 ·intro S' hS hG d c' y hy hd;rw[J12 hx]at hy;refine Jg6 q t _ y c d c' hy ?_ hd
  cases dp with
  |true=>exact Jo _ _ _ _ (hG rfl) k3
  |false=>exact J9 (fun _ _ _ _ h=>h) hS _ _ _ _ k3
theorem Jdi{S':Nat→Prop}:∀(q:List Step) (t:Ty) (x e:Den t) (F:Nat→Prop) (cs:List Value) (v:Value) (d:D) (c:List Value),Lent w t x q F cs v→Rep w S' false d.1 d.2 c→Den.set t x q d=some e→(∀b,F b→S' b)→
  ∃c1 c3,cs=c1++(v::c3)∧c1.length=J3 q∧c.length=1∧Rep w S' false t e (c1++(c++c3)):=by
 intro q
 induction q with
 |nil=>
  intro t x e F cs v d c h hd hs hS;cases t<;>simp only[Lent]at h;rename_i t;simp only[Den.set]at hs;have:=D_to hs;subst this;subst h;exact⟨[],[],rfl,rfl,Jk _ _ _ hd,by simpa using hd⟩
 |cons s q ih=>
  intro t x e F cs v d c h hd hs hS
  cases t with
  |one a=>
   cases s<;>simp only[Lent]at h;simp only[Den.set]at hs;obtain⟨c1,c3,h1,h2,h3,h4⟩:=ih a x e F cs v d c h hd hs hS;exact⟨c1,c3,h1,by simpa[J3,Step.off]using h2,h3,by simpa only[Rep]using h4⟩
  |pair a b=>
   cases s with
   |fst=>
    simp only[Lent]at h;obtain⟨k,k',F1,F2,rfl,g1,g2,g3,g4,g5⟩:=h;simp only[Den.set,Kp]at hs;obtain⟨y,hy,rfl⟩:=hs;obtain⟨c1,c3,rfl,h2,h3,h4⟩:=ih a x.1 y F1 k v d c g4 hd hy (fun b h=>hS b (g1 b h));refine⟨c1,c3++k',by simp,by simpa[J3,Step.off]using h2,h3,?_⟩;simp only[Rep];exact⟨c1++(c++c3),k',by simp,h4,Jo _ _ _ _ (fun b h=>hS b (g2 b h)) g5⟩
   |snd n=>
    simp only[Lent]at h;obtain⟨hn,k,k',F1,F2,rfl,g1,g2,g3,g4,g5⟩:=h;simp only[Den.set,hn,if_true,Kp]at hs;obtain⟨y,hy,rfl⟩:=hs;obtain⟨c1,c3,rfl,h2,h3,h4⟩:=ih b x.2 y F2 k' v d c g5 hd hy (fun b h=>hS b (g2 b h));refine⟨k++c1,c3,by simp,by simp[J3,Step.off,h2,Jl _ _ _ _ g4,hn],h3,?_⟩;simp only[Rep];exact⟨k,c1++(c++c3),by simp,Jo _ _ _ _ (fun b h=>hS b (g1 b h)) g4,h4⟩
   |one=>simp only[Lent]at h
   |el i sz=>simp only[Lent]at h
  |int k=>simp only[Lent]at h
  |bool=>simp only[Lent]at h
  |nil=>simp only[Lent]at h
  |sl t=>simp only[Lent]at h
  |fn f c=>simp only[Lent]at h
  |hsl t=>simp only[Lent]at h
theorem Jgc{c i k:Nat}{n:Bool}{t:Ty}{xs:List (Den t)}{q:List Step}(h:GRep w S hv g F c (.rowl t n xs i q k)):i<xs.length∧∃b o,Jcm w S (hv c) (F c) true t n xs i q b o:=by
 simp only[GRep]at h;obtain⟨_,hi,h⟩:=h;refine⟨hi,?_⟩
 rcases h with⟨_,h2,_⟩|⟨h0,b,o,cap,arr,T,G,h1,h2,h3,h4,h5,h6,h7,h8,h9⟩
 ·have:=congrArg List.length h2;simp at this;simp[this]at hi
 simp only[Kh,List.length_zipIdx]at h1 h2 h3
 have hz:∀(j:Nat) (e:Den t),xs[j]? =some e→(xs.zipIdx.map fun e=>(e.2,e.1))[j]? =some (j,e):=fun j e he=>by simp[K1y,List.getElem?_zipIdx,he]
 have hx:xs[i]? =some xs[i]:=by simp[hi]
 obtain⟨cs,k1,k2,k3⟩:=h9 i _ (hz _ _ hx)
 rcases k3 with⟨k3,_⟩|⟨_,k3⟩
 ·exact absurd rfl k3
 refine⟨b,o,h0,cap,arr,T,G,h1,h2,h3,h4,h5,h6,h7,h8,?_,cs,k1,k2,?_,?_⟩
 ·intro j e hj he;obtain⟨cs,k1,k2,k3⟩:=h9 j _ (hz _ _ he)
  rcases k3 with⟨_,k3⟩|⟨k3,_⟩
  ·exact⟨cs,k1,k2,k3⟩
  ·exact absurd k3 hj
 ·intro _ d G2 c' y hy hd hdj;rw[J12 hx]at hy;obtain⟨c1,c3,e1,e2,e3,e4⟩:=Jbo q t _ y (G i) G2 cs _ d c' k3 hd hy hdj;exact⟨c1,[hv k],c3,by rw[e1];rfl,e2,by rw[e3];rfl,e4⟩
 ·intro S' hS hG d c' y hy hd;rw[J12 hx]at hy;obtain⟨c1,c3,e1,e2,e3,e4⟩:=Jdi q t _ y (G i) cs _ d c' k3 hd hy (hG rfl);exact⟨c1,[hv k],c3,by rw[e1];rfl,e2,by rw[e3];rfl,e4⟩
theorem Jfw{v:Value}{Fc:Nat→Prop}{dp n:Bool}{t:Ty}{xs:List (Den t)}{i:Nat}{q:List Step}{b o:Nat}(h:Jcm w S v Fc dp t n xs i q b o)(hi:i<xs.length){d:D}{c:List Value}{y:Den t}(hy:Den.set t (xs.getD i (dflt t)) q d=some y):
  ∃(arr:Array Value) (T:Nat) (cap:Nat),v= .slice (some ⟨b,o,none⟩) xs.length cap∧w.heap[b]? =some (.cells arr T (0,0))∧Fc b∧
   (c.length≠0→(∃S':Nat→Prop,Rep w S' false d.1 d.2 c)→o+i*size t+J3 q+c.length≤arr.size∧
   ∀w':World,w'.heap[b]? =some (.cells (seg arr (o+i*size t+J3 q) c) T (0,0))→ 
    (∀G2:Nat→Prop,dp=true→DRep w d.1 d.2 G2 c→(∀b,Fc b→G2 b→False)→(∀b',Fc b'→b'≠b→w'.heap[b']? =w.heap[b']?)→(∀b',G2 b'→w'.heap[b']? =w.heap[b']?)→RowB w' (DRep w' t) (size t) n (xs.set i y) (fun b=>Fc b∨G2 b) v)∧
    (∀S':Nat→Prop,J52 S' w w'→(∀b,S b→S' b)→(dp=true→∀b',Fc b'→b'≠b→S' b')→Rep w S' false d.1 d.2 c→∀F':Nat→Prop,F' b→RowB w' (fun e _ c=>Rep w' S' false t e c) (size t) n (xs.set i y) F' v)):=by
 obtain⟨h0,cap,arr,T,G,h1,h2,h3,h4,h5,h6,h7,h8,h9,c0,k1,k2,k3,k4⟩:=h;refine⟨arr,T,cap,h1,h4,h6,fun hc ⟨S0,hS0⟩=> ?_⟩;have hle:(i+1)*size t≤cap*size t:=Kr _ (by omega);rw[K1b,Nat.one_mul]at hle
 have hseg:∀c1 c2 c3:List Value,c0=c1++(c2++c3)→c1.length=J3 q→c2.length=c.length→o+i*size t+J3 q+c.length≤o+i*size t+size t:=by
  intro c1 c2 c3 e1 e2 e3;have:=congrArg List.length e1;simp only[Kf]at this;omega
 have hfit0:o+i*size t+J3 q+c.length≤o+i*size t+size t:=by
  obtain⟨c1,c2,c3,e1,e2,e3,_⟩:=k4 (fun _=>True) (fun _ _=>trivial) (fun _ _ _=>trivial) d c y hy (J9 (fun _ _ _ _ h=>h) (fun _ _=>trivial) _ _ _ _ hS0);exact hseg c1 c2 c3 e1 e2 e3
 have hfit:o+i*size t+J3 q+c.length≤arr.size:=by omega
 refine⟨hfit,fun w' hw'=> ?_⟩
 have hother:∀j e,j≠i→xs[j]? =some e→∀cs,cs.length=size t→rd w b (o+j*size t) cs→rd w' b (o+j*size t) cs:=by
  intro j e hj he cs hl hr;rw[J1t hw'];rw[J1t h4]at hr;intro z u hz;have hzl:=(Kb.1 hz).1;rw[J4y hfit]
  ·exact hr z u hz
  ·rcases Nat.lt_or_gt_of_ne hj with hj|hj
   ·left;have:(j+1)*size t≤i*size t:=Kr _ hj;rw[K1b,Nat.one_mul]at this;omega
   ·right;have:(i+1)*size t≤j*size t:=Kr _ hj;rw[K1b,Nat.one_mul]at this;omega
 have hself:∀c1 c2 c3:List Value,c0=c1++(c2++c3)→c1.length=J3 q→c2.length=c.length→(c1++(c++c3)).length =size t∧rd w' b (o+i*size t) (c1++(c++c3)):=by
  intro c1 c2 c3 e1 e2 e3;have hl:=congrArg List.length e1;simp only[Kf]at hl;refine⟨by simp only[Kf];omega,?_⟩;rw[J1t hw'];rw[J1t h4,e1]at k2;intro z u hz
  by_cases hz1:z<c1.length
  ·rw[Ko hz1]at hz;rw[J4y hfit (.inl (by omega))];exact k2 z u (by rw[Ko hz1];exact hz)
  ·by_cases hz2:z<c1.length+c.length
   ·rw[Ks (by omega),Ko (by omega)]at hz;have:=Jew hfit (j:=z-c1.length) (by omega);rw[hz]at this;rw[←this];congr 1;omega
   ·rw[Ks (by omega),Ks (by omega)]at hz;rw[J4y hfit (.inr (by omega))];refine k2 z u ?_;rw[Ks (by omega),Ks (by omega),e3];exact hz
 have hsz:(seg arr (o+i*size t+J3 q) c).size =arr.size:=J8v hfit;constructor
 ·intro G2 hdp hd hdj hfr hfr2
  have hG2:∀j b',G j b'→G2 b'→False:=fun j b' h h'=>hdj b' (h7 j b' h).1 h'
  have hb2:∀b',G2 b'→b'≠b:=fun b' h he=>hdj b (h6) (he▸h)
  refine .inr ⟨h0,b,o,cap,_,T,fun j b'=>G j b'∨(j=i∧G2 b'),by simpa using h1,by simpa using h2,by simpa using h3,hw',by rw[hsz];exact h5,.inl h6,?_,?_,?_⟩
  ·rintro j b' (hb|⟨_,hb⟩)
   ·exact⟨.inl (h7 j b' hb).1,(h7 j b' hb).2⟩
   ·exact⟨.inr hb,hb2 b' hb⟩
  ·rintro j j' b' (hb|⟨e1,hb⟩) (hb'|⟨e2,hb'⟩)
   ·exact h8 j j' b' hb hb'
   ·exact(hG2 j b' hb hb').elim
   ·exact(hG2 j' b' hb' hb).elim
   ·rw[e1,e2]
  ·intro j e he;rw[List.getElem?_set]at he
   by_cases hj:i=j
   ·subst hj;simp only[if_true,hi]at he
    have he:y=e:=by simpa using he
    subst he;obtain⟨c1,c2,c3,e1,e2,e3,e4⟩:=k3 hdp d G2 c y hy hd (fun b' h h'=>hG2 i b' h h');obtain⟨m1,m2⟩:=hself c1 c2 c3 e1 e2 e3;refine⟨_,m1,m2,Jm _ _ _ _ _ ?_ ?_ e4⟩
    ·rintro b' (hb|hb)
     ·exact .inl hb
     ·exact .inr ⟨rfl,hb⟩
    ·rintro b' (hb|hb)
     ·exact hfr b' (h7 i b' hb).1 (h7 i b' hb).2
     ·exact hfr2 b' hb
   ·simp only[hj,if_false]at he;obtain⟨cs,m1,m2,m3⟩:=h9 j e (fun h=>hj h.symm) he;subst hdp;exact⟨cs,m1,hother j e (fun h=>hj h.symm) he cs m1 m2,Jm _ _ _ _ _ (fun _ h=> .inl h) (fun b' hb=>hfr b' (h7 j b' hb).1 (h7 j b' hb).2) m3⟩
 ·intro S' hk hS hF hd F' hF';refine .inr ⟨h0,b,o,cap,_,T,fun _ _=>False,by simpa using h1,by simpa using h2,by simpa using h3,hw',by rw[hsz];exact h5,hF',fun _ _ h=>h.elim,fun _ _ _ h=>h.elim,?_⟩;intro j e he;rw[List.getElem?_set]at he
  by_cases hj:i=j
  ·subst hj;simp only[if_true,hi]at he
   have he:y=e:=by simpa using he
   subst he;obtain⟨c1,c2,c3,e1,e2,e3,e4⟩:=k4 S' hS (fun hdp b' hb=>hF hdp b' (h7 i b' hb).1 (h7 i b' hb).2) d c y hy hd;obtain⟨m1,m2⟩:=hself c1 c2 c3 e1 e2 e3;exact⟨_,m1,m2,J9 hk (fun _ h=>h) _ _ _ _ e4⟩
  ·simp only[hj,if_false]at he;obtain⟨cs,m1,m2,m3⟩:=h9 j e (fun h=>hj h.symm) he;refine⟨cs,m1,hother j e (fun h=>hj h.symm) he cs m1 m2,?_⟩
   cases dp with
   |true=>exact J9 hk (fun _ h=>h) _ _ _ _ (Jo _ _ _ _ (fun b' hb=>hF rfl b' (h7 j b' hb).1 (h7 j b' hb).2) m3)
   |false=>exact J9 hk (fun _ h=>h) _ _ _ _ (J9 (fun _ _ _ _ h=>h) hS _ _ _ _ m3)
end
end Go.Rf
namespace Go.Rf
section
variable {P:Program} {H:Hints} {w w':World} {S:Nat→Prop} {hv:Nat→Value} {F:Nat→Nat→Prop} {g gl:Look}
theorem J3u(hf:Fit P H){E:Nat}{ag:Bool×Nat}(h:agOf H E=some ag):0<ag.2:=by
 unfold agOf at h
 cases ht:H.ty E with
 |some t=>
  simp only[ht,K0]at h;subst h;exact(hf.ty E t ht).pos
 |none=>
  simp only[ht]at h;cases hc:H.cell E<;>simp[hc]at h;subst h;simp
theorem Jd7(hf:Fit P H)(hI:Inv w S hv F g)(hl:∀c r,gl c=some r→g c=some r)(o:Oper)(ρ:Operand→Value)(E:Nat)(x y:Operand)(ho:o.op= .store E x y){ag:Bool×Nat}(hE:agOf H E=some ag)
  {c i:Nat}{t:Ty}{n:Bool}{xs:List (Den t)}{q:List Step}{r0:Rg}{b off:Nat}(hc:g c=some r0)(hlen:r0.len=some xs.length)(hat:Jcm w S (hv c) (F c) true t n xs i q b off)(hi:i<xs.length)
  (hx:ρ x=adr (hv c) (J3 (.el i (size t)::q))){z:SV}(hz:VR w S hv g z (ρ y))(ha:z.ag=some ag){d:D}{l:List Nat}(hd:Js gl z=some (d,l))(hnd:(c::l).Nodup){e:Den t}(hs:Den.set t (xs.getD i (dflt t)) q d=some e):
  Res P ((execOp ρ o).run P w) (Out w S hv F g ⟨.unit,(c,.row t true n (xs.set i e))::l.map fun k=>(k,Rg.gone)⟩):=by
 obtain⟨cs,_,hcs,hcl,hcv⟩:=J1x ha hz;rw[K1z]at hnd;have hD:=J5e hI hl z d l cs hd hnd.2 hcs;obtain⟨arr,T,cap,h1,h2,h3,h4⟩:=Jfw hat hi (c:=cs) hs;have hpos:=J3u hf hE;obtain⟨h5,h6⟩:=h4 (by omega) ⟨fun _=>True,Jo _ _ _ _ (fun _ _=>trivial) hD⟩
 have hadr:ρ x= .pointer (some ⟨b,off+i*size t+J3 q,none⟩):=by rw[hx,h1,J3c];simp[J3,Step.off,K1h]
 have hrun:=J50 (w:=w) hf o ρ E x y ho hE hadr h2 hcv hcl (J5k _ _ hcs) h5;refine J88 hrun ?_;obtain⟨h7,_⟩:=h6 (w.setRow b (seg arr (off+i*size t+J3 q) cs)) (setRow_heap w b arr _ T _ h2)
 have hdj:∀b',F c b'→FL F l b'→False:=fun b' h ⟨k,hk,hkb⟩=>hnd.1 (hI.disj c k b' h hkb▸hk)
 have hrow:=h7 (FL F l) rfl hD hdj (fun b' _ hne=>setRow_other _ _ _ _ hne) (fun b' h=>setRow_other _ _ _ _ (fun he=>hdj b h3 (he▸h)))
 have hstep:=J30 (w':=w.setRow b (seg arr (off+i*size t+J3 q) cs)) (r:= .row t true n (xs.set i e)) (v:=hv c) (gs:=l) (fs:=[]) (Fd:=fun b'=>F c b'∨FL F l b') (Q:=fun _=>False) (gl:=gl) (d:=c) hI hl (fun _=>rfl)
  (fun m _ h=>by simp[Rg.len]at h;simp[glen,hc,hlen,h]) (.inl rfl) hnd.1 (by simp) (by simp) (fun k hk=>by obtain⟨r,hr,_⟩:=J6y hl _ _ _ hd k hk;rw[hr];simp) (by simp)
  (by rw[Jx];exact Kz _) (fun b' hb hn=>setRow_other _ _ _ _ (fun h=>hn ⟨c,by simp,h▸h3⟩)) (fun b' hb=>⟨.inl (by
   rcases hb with hb|⟨k,hk,hkb⟩
   ·exact⟨c,by simp,hb⟩
   ·exact⟨k,by simp[hk],hkb⟩),by
   rw[Jx]
   rcases hb with hb|⟨k,hk,hkb⟩
   ·exact hI.old c b' hb
   ·exact hI.old k b' hkb⟩) (fun _ h=>h.elim) (by
   intro hE;simp only[GRep,if_true]
   exact hrow)
 exact Out.mk (by simpa[frozen]using J16 g gl c (.row t true n (xs.set i e)) l []) hstep rfl
theorem J9z(hf:Fit P H)(hI:Inv w S hv F g)(hl:∀c r,gl c=some r→g c=some r)(o:Oper)(ρ:Operand→Value)(E:Nat)(x y:Operand)(ho:o.op= .store E x y){ag:Bool×Nat}(hE:agOf H E=some ag)
  {c i:Nat}{t:Ty}{dp n:Bool}{xs:List (Den t)}{q:List Step}{r0:Rg}{b off:Nat}(hc:g c=some r0)(hlen:r0.len=some xs.length)(hat:Jcm w S (hv c) (F c) dp t n xs i q b off)(hi:i<xs.length)
  (hx:ρ x=adr (hv c) (J3 (.el i (size t)::q))){z:SV}(hz:VR w S hv g z (ρ y))(ha:z.ag=some ag){d:D}{l:List Nat}(hd:view gl z=some (d,l))(hnd:(c::l).Nodup){e:Den t}(hs:Den.set t (xs.getD i (dflt t)) q d=some e):
  Res P ((execOp ρ o).run P w) (Out w S hv F g ⟨.unit,(c,.row t (flat t) n (xs.set i e))::frozen gl l⟩):=by
 obtain⟨cs,_,hcs,hcl,hcv⟩:=J1x ha hz;rw[K1z]at hnd;have hR:=J2t (S':=fun b'=>S b'∨FL F l b'∨(F c b'∧b'≠b)) hI hl z d l cs hd (fun _ h=> .inl h) (fun _ h=> .inr (.inl h)) hcs;obtain⟨arr,T,cap,h1,h2,h3,h4⟩:=Jfw hat hi (c:=cs) hs;have hpos:=J3u hf hE;obtain⟨h5,h6⟩:=h4 (by omega) ⟨_,hR⟩
 have hadr:ρ x= .pointer (some ⟨b,off+i*size t+J3 q,none⟩):=by rw[hx,h1,J3c];simp[J3,Step.off,K1h]
 have hrun:=J50 (w:=w) hf o ρ E x y ho hE hadr h2 hcv hcl (J5k _ _ hcs) h5;refine J88 hrun ?_;obtain⟨_,h7⟩:=h6 (w.setRow b (seg arr (off+i*size t+J3 q) cs)) (setRow_heap w b arr _ T _ h2)
 have hne:∀b',(S b'∨FL F l b'∨(F c b'∧b'≠b))→b'≠b:=by
  rintro b' (h|⟨k,hk,hkb⟩|⟨_,h⟩) rfl
  ·exact hI.shr c _ h3 h
  ·exact hnd.1 (hI.disj c k _ h3 hkb▸hk)
  ·exact h rfl
 have hrow:=h7 (fun b'=>S b'∨FL F l b'∨(F c b'∧b'≠b)) (fun b' o v hb hc=>by rw[J2o (setRow_other _ _ _ _ (hne b' hb))];exact hc) (fun _ h=> .inl h) (fun _ b' h h'=> .inr (.inr ⟨h,h'⟩)) hR (fun b'=>b'=b) rfl
 have hstep:=J30 (w':=w.setRow b (seg arr (off+i*size t+J3 q) cs)) (r:= .row t (flat t) n (xs.set i e)) (v:=hv c) (gs:=[]) (fs:=l) (Fd:=fun b'=>b'=b) (Q:=fun b'=>F c b'∧b'≠b) (gl:=gl) (d:=c) hI hl (fun _=>rfl)
  (fun m _ h=>by simp[Rg.len]at h;simp[glen,hc,hlen,h]) (.inl rfl) (by simp) hnd.1 (by simp) (by simp) (J3h _ _ _ hd)
  (by rw[Jx];exact Kz _) (fun b' hb hn=>setRow_other _ _ _ _ (fun h=>hn ⟨c,by simp,h▸h3⟩)) (fun b' hb=>⟨.inl ⟨c,by simp,hb▸h3⟩,by
   rw[Jx,hb]
   exact hI.old c b h3⟩) (fun b' h=>⟨⟨c,by simp,h.1⟩,h.2⟩) (by
   intro hE;simp only[GRep,if_true];refine J1g (fun _ h=>h) (fun _ _=>rfl) (fun e G cs _ he=> ?_) hrow
   cases hft:flat t with
   |true=>exact Jr _ _ _ hft he
   |false=>exact he)
 exact Out.mk (by simpa using J16 g gl c (.row t (flat t) n (xs.set i e)) [] l) hstep rfl
theorem J2j(hf:Fit P H)(hI:Inv w S hv F g)(hl:∀c r,gl c=some r→g c=some r)(o:Oper)(ρ:Operand→Value)(E:Nat)(x y:Operand)(ho:o.op= .store E x y){ag:Bool×Nat}(hE:agOf H E=some ag)
  {c i:Nat}{t:Ty}{dp n:Bool}{xs:List (Den t)}{q:List Step}{r0:Rg}{b off:Nat}(hc:g c=some r0)(hlen:r0.len=some xs.length)(hat:Jcm w S (hv c) (F c) dp t n xs i q b off)(hi:i<xs.length)
  (hx:ρ x=adr (hv c) (J3 (.el i (size t)::q))){z:SV}(hz:VR w S hv g z (ρ y))(ha:z.ag=some ag){e:Eff}(he:(J2h gl c t dp n xs [] i q z).run =some e):
  Res P ((execOp ρ o).run P w) (Out w S hv F g e):=by
 unfold J2h at he;split at he
 ·rename_i d l hd
  cases dp with
  |false=>simp at hd
  |true=>
   simp only[if_true]at hd;split at he
   rotate_left
   ·simp[M.run]at he
   rename_i hnd;have hnd:=Ji hnd;simp only[K1l]at hnd he;split at he
   rotate_left
   ·simp[M.run]at he
   rename_i y' hy;simp only[M.run,K0]at he;subst he;exact Jd7 hf hI hl o ρ E x y ho hE hc hlen hat hi hx hz ha hd hnd hy
 ·split at he
  rotate_left
  ·simp[M.run]at he
  rename_i d l hd;split at he
  rotate_left
  ·simp[M.run]at he
  rename_i hnd;have hnd:=Ji hnd;simp only[K1l,List.map_nil]at hnd he;split at he
  rotate_left
  ·simp[M.run]at he
  rename_i y' hy;simp only[M.run,K0]at he;subst he;exact J9z hf hI hl o ρ E x y ho hE hc hlen hat hi hx hz ha hd hnd hy
end
end Go.Rf
namespace Go.Rf
section
variable {P:Program} {H:Hints} {w w':World} {S:Nat→Prop} {hv:Nat→Value} {F:Nat→Nat→Prop} {g gl gm:Look}
def J5g(gl gm:Look)(l:List Nat):Prop:=∀z r,gl z=some r→(z∈l∨r.owns=false)→gm z=some r
theorem J5g.left{l m:List Nat}(h:J5g gl gm (l++m)):J5g gl gm l:=fun z r hr ho=>h z r hr (ho.imp (fun h=>Ke _ h) id)
theorem J5g.right{l m:List Nat}(h:J5g gl gm (l++m)):J5g gl gm m:=fun z r hr ho=>h z r hr (ho.imp (fun h=>Kw _ h) id)
theorem J2b:∀(a:SV) (d:D) (l:List Nat),J17 gl a=some (d,l)→J5g gl gm l→J17 gm a=some (d,l):=by
 intro a
 induction a with
 |v t x=>intro d l h _;exact h
 |ref c=>
  intro d l h ht;simp only[J17]at h⊢
  split at h<;>try (cases h;done)
  ·rename_i hg;simp only[K0,K6]at h;obtain⟨rfl,rfl⟩:=h;rw[ht c _ hg (.inl (by simp))]
  ·rename_i hg;simp only[K0,K6]at h;obtain⟨rfl,rfl⟩:=h;rw[ht c _ hg (.inl (by simp))]
  ·rename_i hg;simp only[K0,K6]at h;obtain⟨rfl,rfl⟩:=h;rw[ht c _ hg (.inr rfl)]
 |sub c sz lo hi=>
  intro d l h ht;simp only[J17]at h⊢
  split at h<;>try (cases h;done)
  ·rename_i hg
   split at h<;>try (cases h;done)
   rename_i hsz;simp only[K0,K6]at h;obtain⟨rfl,rfl⟩:=h;rw[ht c _ hg (.inl (by simp))];simp[hsz]
  ·rename_i hg
   split at h<;>try (cases h;done)
   rename_i hsz;simp only[K0,K6]at h;obtain⟨rfl,rfl⟩:=h;rw[ht c _ hg (.inr rfl)];simp[hsz]
 |one a ih=>
  intro d l h ht;simp only[J17]at h⊢
  split at h<;>try (cases h;done)
  rename_i h1;simp only[K0,K6]at h;obtain⟨rfl,rfl⟩:=h;rw[ih _ _ h1 ht]
 |pair a b iha ihb=>
  intro d l h ht;simp only[J17]at h⊢
  split at h<;>try (cases h;done)
  rename_i h1 h2;simp only[K0,K6]at h;obtain⟨rfl,rfl⟩:=h;rw[iha _ _ h1 ht.left,ihb _ _ h2 ht.right]
 |_=>intro d l h;simp[J17]at h
theorem Jbh(a:SV)(d:D)(l:List Nat)(h:J4l gl a=some (d,l))(ht:J5g gl gm l):J4l gm a=some (d,l):=by
 unfold J4l at h;split at h
 ·exact h
 ·unfold J4l;split at h
  ·rename_i c p _ b hg
   split at h<;>try (cases h;done)
   rename_i hb
   split at h<;>try (cases h;done)
   rename_i h1;simp only[K0,K6]at h;obtain⟨rfl,rfl⟩:=h;have:=ht c _ hg (.inl (by simp));simp only[this,hb];rw[J2b _ _ _ h1 (fun z r hr ho=>ht z r hr (ho.imp (fun h=>K9 _ h) id))]
  ·rename_i c p _ t y hg
   split at h<;>try (cases h;done)
   rename_i hb;simp only[K0,K6]at h;obtain⟨rfl,rfl⟩:=h;have:=ht c _ hg (.inr rfl);simp only[this,hb]
  ·rename_i c p _ t dp n xs hg
   split at h<;>try (cases h;done)
   split at h<;>try (cases h;done)
   rename_i hsz
   split at h<;>try (cases h;done)
   rename_i hb;simp only[K0,K6]at h;obtain⟨rfl,rfl⟩:=h;have:=ht c _ hg (.inl (by simp));simp only[this,hsz,hb]
  ·cases h
 ·cases h
theorem Jbg:∀(a:SV) (d:D) (l:List Nat),J4k gl a=some (d,l)→J5g gl gm l→J4k gm a=some (d,l):=by
 intro a
 induction a with
 |unit=>intro d l h _;exact h
 |tup a b iha ihb=>
  intro d l h ht;simp only[J4k]at h⊢
  split at h<;>try (cases h;done)
  rename_i h1 h2;simp only[K0,K6]at h;obtain⟨rfl,rfl⟩:=h;rw[Jbh _ _ _ h1 ht.left,ihb _ _ h2 ht.right]
 |_=>intro d l h;simp[J4k]at h
theorem Jdb(a:SV)(d:D)(l:List Nat)(h:view gl a=some (d,l))(ht:J5g gl gm l):view gm a=some (d,l):=by
 unfold view at h⊢;split at h
 ·split at h<;>try (cases h;done)
  rename_i h1;simp only[K0,K6]at h;obtain⟨rfl,rfl⟩:=h;simp only[Jbg _ _ _ h1 ht]
 ·exact J2b _ _ _ h ht
theorem J5f:∀(a:SV) (d:D) (l:List Nat),Js gl a=some (d,l)→(∀z r,gl z=some r→z∈l→gm z=some r)→Js gm a=some (d,l):=by
 intro a
 induction a with
 |v t x=>intro d l h _;exact h
 |ref c=>
  intro d l h ht;simp only[Js]at h⊢
  split at h<;>try (cases h;done)
  rename_i hg
  split at h<;>try (cases h;done)
  rename_i hf;simp only[K0,K6]at h;obtain⟨rfl,rfl⟩:=h;rw[ht c _ hg (by simp)];simp[hf]
 |one a ih=>
  intro d l h ht;simp only[Js]at h⊢
  split at h<;>try (cases h;done)
  rename_i h1;simp only[K0,K6]at h;obtain⟨rfl,rfl⟩:=h;rw[ih _ _ h1 ht]
 |pair a b iha ihb=>
  intro d l h ht;simp only[Js]at h⊢
  split at h<;>try (cases h;done)
  rename_i h1 h2;simp only[K0,K6]at h;obtain⟨rfl,rfl⟩:=h;rw[iha _ _ h1 (fun z r hr hz=>ht z r hr (Ke _ hz)),ihb _ _ h2 (fun z r hr hz=>ht z r hr (Kw _ hz))]
 |_=>intro d l h;simp[Js]at h
theorem Je9{c:Nat}{r:Rg}(hsub:∀z r,gm z=some r→gl z=some r)(ht:J5g gl gm [c])(hc:gl c=some r):J6b gm c=J6b gl c:=by
 have hm:=ht c r hc (.inl (by simp));unfold J6b;simp only[hm,hc]
 cases r<;>try rfl
 rename_i a;simp only[J20]
 cases hv0:J17 gl a with
 |none=>
  cases hv1:J17 gm a with
  |none=>rfl
  |some p=>
   have:=J2b (gl:=gm) (gm:=gl) a p.1 p.2 hv1 (fun z r hr _=>hsub z r hr);rw[hv0]at this;cases this
 |some p=>
  obtain⟨d,l⟩:=p
  cases l with
  |nil=>
   have:=J2b (gl:=gl) (gm:=gm) a d [] hv0 (fun z r hr ho=>ht z r hr (.inr (ho.resolve_left (by simp))));rw[this]
  |cons k ks=>
   cases hv1:J17 gm a with
   |none=>rfl
   |some p=>
    have:=J2b (gl:=gm) (gm:=gl) a p.1 p.2 hv1 (fun z r hr _=>hsub z r hr);rw[hv0]at this;simp only[K0]at this;obtain⟨d',l'⟩:=p;simp only[K6]at this;obtain⟨_,rfl⟩:=this;rfl
theorem J79{c i:Nat}{t:Ty}{dp n:Bool}{xs:List (Den t)}{q:List Step}{z:SV}{gs:List Nat}{e:Eff}(hsub:∀z r,gm z=some r→gl z=some r)
  (ht:∀z r,gl z=some r→z≠c→z∉gs→gm z=some r)(hown:∀z r,gl z=some r→r.owns=false→z≠c∧z∉gs)(hnot:gm c=none∧∀z∈gs,gm z=none)
  (he:(J2h gl c t dp n xs gs i q z).run =some e):
  ∃e',(J2h gm c t dp n xs [] i q z).run =some e'∧e'.val=e.val∧∀g0 g1:Look,(∀k∈gs,g1 k=some .gone)→(∀k,k≠c→k∉gs→g1 k=g0 k)→J5 g1 e'.upd=J5 g0 e.upd:=by
 have htells:∀l,(c::(l++gs)).Nodup →J5g gl gm l:=by
  intro l hnd z r hr ho;rw[K1z,K19]at hnd
  rcases ho with ho|ho
  ·exact ht z r hr (fun h=>hnd.1 (h▸Ke _ ho)) (fun h=>hnd.2.2.2 z ho z h rfl)
  ·obtain⟨h1,h2⟩:=hown z r hr ho;exact ht z r hr h1 h2
 have hlnd:∀l,(c::(l++gs)).Nodup →J1h (c::(l++[]))=true:=by
  intro l hnd
  have:(c::l).Nodup :=by
   rw[K1z,K19]at hnd;rw[K1z];exact⟨fun h=>hnd.1 (Ke _ h),hnd.2.1⟩
  rw[K1l]
  have key:∀l:List Nat,l.Nodup→J1h l=true:=by
   intro l
   induction l with
   |nil=>intro _;rfl
   |cons a l ih=>
    intro h;rw[K1z]at h;simp[J1h,ih h.2,h.1]
  exact key _ this
 unfold J2h at he⊢;split at he
 ·rename_i d l hd
  cases dp with
  |false=>simp at hd
  |true=>
   simp only[if_true]at hd;split at he
   rotate_left
   ·simp[M.run]at he
   rename_i hnd;have hnd:=Ji hnd;dsimp only at he;split at he
   rotate_left
   ·simp[M.run]at he
   rename_i y' hy;simp only[M.run,K0]at he;subst he;have htl:=htells l hnd;have hd':=J5f (gm:=gm) z d l hd (fun z r hr hz=>htl z r hr (.inl hz));simp only[if_true,hd',hlnd l hnd,hy];refine⟨_,rfl,rfl,fun g0 g1 h0 h1=> ?_⟩;funext k;simp only[J7,K1l,Jq,Kl]
   by_cases hk:k=c
   ·simp[hk]
   ·by_cases hkl:k∈l
    ·simp[hk,hkl]
    ·by_cases hkg:k∈gs
     ·simp[hk,hkl,hkg,h0 k hkg]
     ·simp[hk,hkl,hkg,h1 k hk hkg]
 ·rename_i hnone;split at he
  rotate_left
  ·simp[M.run]at he
  rename_i d l hd;split at he
  rotate_left
  ·simp[M.run]at he
  rename_i hnd;have hnd:=Ji hnd;dsimp only at he;split at he
  rotate_left
  ·simp[M.run]at he
  rename_i y' hy;simp only[M.run,K0]at he;subst he;have htl:=htells l hnd;have hd':=Jdb (gm:=gm) z d l hd htl
  have hnone':(if dp=true then Js gm z else none)=none:=by
   cases dp with
   |false=>rfl
   |true=>
    simp only[if_true]at hnone⊢
    cases hm:Js gm z with
    |none=>rfl
    |some p=>exact absurd (J5f (gl:=gm) (gm:=gl) z p.1 p.2 hm (fun z r hr _=>hsub z r hr)) (by rw[hnone];simp)
  simp only[hnone',hd',hlnd l hnd,hy];refine⟨_,rfl,rfl,fun g0 g1 h0 h1=> ?_⟩
  have hfrz:frozen gm l=frozen gl l:=by
   unfold frozen
   refine List.map_congr_left fun k hk=> ?_
   obtain⟨r,hr⟩:=K13.1 (J3h _ _ _ hd k hk);rw[Je9 hsub (fun z r hr ho=>htl z r hr (ho.imp (fun h=>by simp at h;exact h▸hk) id)) hr]
  funext k;rw[hfrz];simp only[J7,J1a,J23,Jq,List.not_mem_nil,if_false]
  by_cases hk:k=c
  ·simp[hk]
  ·by_cases hkl:k∈l
   ·simp[hk,hkl]
   ·by_cases hkg:k∈gs
    ·simp[hk,hkl,hkg,h0 k hkg]
    ·simp[hk,hkl,hkg,h1 k hk hkg]
theorem Jb8(hf:Fit P H)(hI:Inv w S hv F g)(hl:∀c r,gl c=some r→g c=some r)(o:Oper)(ρ:Operand→Value)(E:Nat)(x y:Operand)(ho:o.op= .store E x y){ag:Bool×Nat}(hE:agOf H E=some ag)
  {a z:SV}(hx:VR w S hv g a (ρ x))(hz:VR w S hv g z (ρ y)){e:Eff}(he:(Jf0 gl ag a z).run =some e):Res P ((execOp ρ o).run P w) (Out w S hv F g e):=by
 unfold Jf0 at he;split at he
 ·simp[M.run]at he
 rename_i ha;have ha:z.ag=some ag:=of_decide_eq_true ha;split at he
 rotate_left
 ·simp[M.run]at he
 rename_i c p;have hx0:=hx
 replace hx:=Jdv hx
 obtain⟨hg,hx,hbs,hin⟩:=hx;split at he
 ·
  rename_i b hc;split at he
  rotate_left
  ·simp[M.run]at he
  rename_i b' hb;simp only[M.run,K0]at he;subst he;exact Jf1 hf hI o ρ E x y ho hE (hl _ _ hc) hx0 hz ha hb
 ·
  rename_i t dp n xs hc;split at he
  rotate_left
  ·simp[M.run]at he
  rename_i i sz q;split at he
  rotate_left
  ·simp[M.run]at he
  rename_i hsz
  have hsz:sz=size t:=by simpa using hsz
  subst hsz;have hgc:=hl _ _ hc;have hi:i<xs.length:=Jcc hgc rfl hin;have hr:=hI.rep c _ hgc;simp only[GRep]at hr;obtain⟨b,off,hat⟩:=Jfx hr hi q;exact J2j hf hI hl o ρ E x y ho hE hgc rfl hat hi hx hz ha he
 ·
  rename_i t n xs j r k hc;split at he
  rotate_left
  ·simp[M.run]at he
  rename_i i sz q;split at he
  rotate_left
  ·simp[M.run]at he
  rename_i hsz
  have hsz:sz=size t:=by simpa using hsz
  subst hsz;have hgc:=hl _ _ hc;split at he
  ·
   rename_i hk;split at he
   rotate_left
   ·simp[M.run]at he
   rename_i t' dp' n' xs' gs hset
   rcases J34 hset with⟨h1,h2⟩|⟨t1,n1,xs1,i1,q1,d1,dp1,m1,u1,ys1,y1,h1,h2,h3,h4,h5,h6⟩
   ·cases h2
   cases h1;cases h5;subst h6;obtain⟨S1,hv1,F1,hst⟩:=J42 hI hl hgc hset (by simp);have hgd:=hl _ _ h2
   have hck:c≠k:=by rintro rfl;rw[hgc]at hgd;cases hgd
   have hx1:=hst.ext;have hz1:=J5w hx1 z _ hz;have hin1:=J4n hx1 hg hin
   have hc1:J5 g ((c,.row t true n (xs.set j y1))::[k].map fun e=>(e,Rg.gone)) c=some (.row t true n (xs.set j y1)):=by rw[J7];simp
   have hi:i<(xs.set j y1).length :=Jcc hc1 rfl hin1;have hr:=hst.inv.rep c _ hc1;simp only[GRep]at hr;obtain⟨b,off,hat⟩:=Jfx hr hi q
   obtain⟨e',h7,h8,h9⟩:=J79 (gm:=fun z=>if z=c∨z∈[k]then none else gl z) (gl:=gl) (gs:=[k]) (fun z r h=>by
     split at h
     ·cases h
     ·exact h) (fun z r h h' h''=>by
     simp at h''
     simp[h',h'',h]) (fun z r h h'=>by
     constructor
     ·rintro rfl;rw[hc]at h;cases h;cases h'
     ·intro hm;simp at hm;subst hm;rw[h2]at h;cases h;cases h') ⟨by simp,by simp⟩ he
   have hgm:∀z r,(if z=c∨z∈[k]then none else gl z)=some r→J5 g ((c,.row t true n (xs.set j y1))::[k].map fun e=>(e,Rg.gone)) z=some r:=by
    intro z r h;split at h
    ·cases h
    ·rename_i hn;simp only[not_or]at hn;rw[J7,if_neg hn.1,Jq,if_neg hn.2];exact hl _ _ h
   have hxv:hv1 c=hv c:=hx1.hv c hg;have ho1:=J2j hf hst.inv hgm o ρ E x y ho hE hc1 rfl hat hi (by rw[hx,hxv]) hz1 ha h7
   refine Res.mono ho1 fun v w' h=>Out.after hst (h9 _ _ ?_ ?_) h8 h
   ·intro z hz;simp at hz;subst hz;rw[J7,if_neg (Ne.symm hck),Jq];simp
   ·intro z h1 h2;rw[J7,if_neg h1,Jq,if_neg h2]
  ·
   split at he
   rotate_left
   ·simp[M.run]at he
   rename_i hq;have hq:q=r:=of_decide_eq_true hq;subst hq;simp only[M.run]at he
   cases hji:j==i with
   |false=>simp[hji,M.run]at he
   |true=>
    simp only[hji,cond_true]at he
    have hji:j=i:=by simpa using hji
    subst hji;obtain⟨hi,b,off,hat⟩:=Jgc (hI.rep c _ hgc);exact J2j hf hI hl o ρ E x y ho hE hgc rfl hat hi hx hz ha he
 ·simp[M.run]at he
end
end Go.Rf
namespace Go.Rf
section
variable {P:Program} {H:Hints} {w w':World} {S:Nat→Prop} {hv:Nat→Value} {F:Nat→Nat→Prop} {g gl gm:Look}
def Jgp(w:World)(sz:Nat)(v:Value)(len:Nat)(olds:List Value):Prop:=
 (v= .slice none 0 0∧len=0∧olds=[])∨
 ∃(b o cap:Nat) (arr:Array Value) (U:Nat),v= .slice (some ⟨b,o,none⟩) len cap∧len≤cap∧w.heap[b]? =some (.cells arr U (0,0))∧o+cap*sz≤arr.size∧olds.length=len*sz∧rd w b o olds
def SrcC(P:Program)(w:World)(T U:Nat)(sz:Nat)(z:Array Value)(x:Value)(m:Nat)(news:List Value):Prop:=
 (∃k k',P.underlying U=some (.int k)∧x= .int k' (m:Int)∧m≤lim∧news=(Builtin.zeroCells z m).toList)∨
 (U=T∧((∃A,x= .slice A 0 0∧m=0∧news=[])∨∃b o cap,x= .slice (some ⟨b,o,none⟩) m cap∧news.length=m*sz∧rd w b o news))
theorem Jce{b o:Nat}{cs:List Value}(h:rd w b o cs):∀j v,cs[j]? =some v→w.cell? ((⟨b,o,none⟩:Addr).add j)=some v:=fun j v hj=>by
 rw[Addr.add_none];exact h j v hj
theorem J2k(z:Array Value)(n:Nat):(Builtin.zeroCells z n).size =n*z.size:=by simp[Builtin.zeroCells]
def J7m(w:World)(need old E:Nat)(z:Array Value)(olds news:List Value):World:=
 w.drew.alloc (.cells (olds.toArray++(news.toArray++Builtin.zeroCells z (grownCap w need old E-need))) E (0,0))
theorem Jd4(hf:Fit P H){T U:Nat}{t:Ty}(hT:H.ty T=some (.sl t))(ty:TypeId){v x:Value}{len m:Nat}{olds news:List Value}{z:Array Value}(hz:∀E i,P.underlying T=some (.slice E)→P.info? E=some i→∀z0,i.zero=some z0→z0.cells=z)
  (hb:Jgp w (size t) v len olds)(hs:SrcC P w T U (size t) z x m news)(h1:∀u∈news,u.oneCell'=true)(hlim:len+m≤lim)(hnl:news.length=m*size t):
  ∃v' w',(Builtin.append_ #[T,U] ty #[v,x]).run P w= .ok v' w'∧
   ((v= .slice none 0 0∧m=0∧v'=v∧w'=w)∨
    (∃(b o cap:Nat) (arr:Array Value) (V:Nat),v= .slice (some ⟨b,o,none⟩) len cap∧w.heap[b]? =some (.cells arr V (0,0))∧len+m≤cap∧v'= .slice (some ⟨b,o,none⟩) (len+m) cap∧w'=w.setRow b (seg arr (o+len*size t) news))∨
    ((v= .slice none 0 0→m≠0)∧∃cap E zs,v'= .slice (some ⟨w.heap.size,0,none⟩) (len+m) cap∧len+m≤cap∧w'.heap=(w.alloc (.cells (olds++(news++zs)).toArray E (0,0))).heap ∧zs.length=(cap-(len+m))*size t∧J3a w w')):=by
 obtain⟨E,hu,hE⟩:=(hf.ty T _ hT).under;have hft:=hf.ty E t hE;obtain⟨i,z0,h3,h4,h5,h6,h7,_⟩:=hft.info;have hz0:=hz E i hu h3 z0 h6
 have hzs:z.size=size t:=by rw[←hz0,←Jg t,←h7];simp
 have hpos:=hft.pos;have hl1:lim=1099511627776:=rfl
 have hgrow:∀cap,cap<len+m→¬(281474976710656<Builtin.nextslicecap (len+m) cap*i.bytes):=by
  intro cap hc
  have hb:(len+m)*i.bytes≤140737488355328:=by
   have:(len+m)*i.bytes≤lim*128:=Nat.mul_le_mul hlim h5;omega
  have:=growslice_fits hc hb;omega
 have hnew:∀old,old<len+m→∃cap E' zs,Value.slice (some ⟨w.heap.size,0,none⟩) (len+m) (grownCap w (len+m) old E)= .slice (some ⟨w.heap.size,0,none⟩) (len+m) cap∧len+m≤cap∧
   (J7m w (len+m) old E z olds news).heap =(w.alloc (.cells (olds++(news++zs)).toArray E' (0,0))).heap ∧zs.length=(cap-(len+m))*size t∧J3a w (J7m w (len+m) old E z olds news):=by
  intro old _;refine⟨grownCap w (len+m) old E,E,(Builtin.zeroCells z (grownCap w (len+m) old E-(len+m))).toList,rfl,grownCap_ge w _ _ E,?_,by simp[J2k,hzs],⟨rfl,rfl,rfl⟩⟩
  have e:(olds++(news++(Builtin.zeroCells z (grownCap w (len+m) old E-(len+m))).toList)).toArray =olds.toArray++(news.toArray++Builtin.zeroCells z (grownCap w (len+m) old E-(len+m))):=by apply Array.ext';simp
  rw[e];rfl
 rcases hs with⟨k,k',hU,rfl,hm,rfl⟩|⟨rfl,hs⟩
 ·
  have e1:IntKind.i64.wrap (m:Int)=m:=by simp[IntKind.wrap,IntKind.bits,IntKind.signed];omega
  have e2:¬((281474976710656:Int)<(m:Int)*(i.bytes:Int)):=by
   have:m*i.bytes≤lim*128:=Nat.mul_le_mul hm h5
   have h8:((m*i.bytes:Nat):Int)≤((lim*128:Nat):Int):=by exact_mod_cast this
   push_cast at h8;simp only[hl1]at h8;omega
  have e3:¬((m:Int)<0):=by omega
  have e10:IntKind.i64.wrap 0=0:=rfl
  have h63:∀k:Nat,k≤lim→¬((9223372036854775807:Int)<(k:Int)):=by intro k hk;omega
  rcases hb with⟨rfl,rfl,rfl⟩|⟨b,o,cap,arr,V,rfl,hlc,hb,hfit,hol,hrd⟩
  ·by_cases hm0:m=0
   ·subst hm0;refine⟨_,w,?_,.inl ⟨rfl,rfl,rfl,rfl⟩⟩;simp[Builtin.append_,run_underlying hu,run_underlying hU,sizeOf,typeInfo,h3,asInt,asIntOf,e10]
   ·have hg:=hgrow 0 (by omega)
    have hmz:¬(m*size t=0):=by rw[Nat.mul_eq_zero];omega
    have h63m:=h63 m hm;simp only[K1o]at hg;refine⟨_,_,?_,.inr (.inr ⟨fun _=>hm0,hnew 0 (by omega)⟩)⟩;simp[Builtin.append_,run_underlying hu,run_underlying hU,sizeOf,typeInfo,h3,asInt,asIntOf,e1,e2,e3,e10,hm0,hg,h63m,h4,hmz,zeroValue,h6,hz0,Builtin.firstCells,newRow,Question.forced,J1l,grownCap,J7m]
  ·by_cases hroom:len+m≤cap
   ·refine⟨_,_,?_,.inr (.inl ⟨b,o,cap,arr,V,rfl,hb,hroom,rfl,rfl⟩)⟩
    by_cases hm0:m=0
    ·subst hm0
     have hz:Builtin.zeroCells z 0= #[]:=by simp[Builtin.zeroCells]
     have hse:seg arr (o+len*size t) []=arr:=by apply Array.ext';simp[seg]
     simp[Builtin.append_,run_underlying hu,run_underlying hU,sizeOf,typeInfo,h3,asInt,asIntOf,e10,h4,hlc,hz,hse,storeCells,setRow_self w b arr V (0,0) hb]
    ·have hmz:¬(m*size t=0):=by rw[Nat.mul_eq_zero];omega
     have hst:=run_storeCells_at P b (o+len*size t) V (Builtin.zeroCells z m).toList 0 arr w hb (by
      simp only[K2d,hnl];have:(len+m)*size t≤cap*size t:=Kr _ hroom;rw[K1b]at this
      omega) h1
     simp only[K2d]at hst;simp[Builtin.append_,run_underlying hu,run_underlying hU,sizeOf,typeInfo,h3,asInt,asIntOf,e1,e2,e3,hroom,h4,hm0,hmz,zeroValue,h6,hz0,Addr.add_none,hst,seg]
   ·have hg:=hgrow cap (by omega);have h63m:=h63 (len+m) hlim
    have hfo:∀w2:World,w2.heap=w.heap→(Builtin.firstCells (size t) len (.slice (some ⟨b,o,none⟩) len cap)).run P w2= .ok olds.toArray w2:=fun w2 h2=>
     run_firstCells_some (P:=P) w2 (size t) len ⟨b,o,none⟩ len cap olds hol (Jce (J8r (by rw[h2]) hrd))
    refine⟨_,_,?_,.inr (.inr ⟨(fun h=>by cases h),hnew cap (by omega)⟩)⟩
    have hm0:¬(m=0):=by omega
    have hmz:¬(m*size t=0):=by rw[Nat.mul_eq_zero];omega
    push_cast at h63m;simp[Builtin.append_,run_underlying hu,run_underlying hU,sizeOf,typeInfo,h3,asInt,asIntOf,e1,e2,e3,hroom,hm0,hg,h63m,h4,hmz,Nat.ne_of_gt hpos,zeroValue,h6,hz0,hfo w.drew rfl,newRow,Question.forced,J1l,grownCap,J7m]
 ·
  rcases hs with⟨A,rfl,rfl,rfl⟩|⟨b2,o2,c2,rfl,hl2,hrd2⟩
  ·rcases hb with⟨rfl,rfl,rfl⟩|⟨b,o,cap,arr,V,rfl,hlc,hb,hfit,hol,hrd⟩
   ·refine⟨_,w,?_,.inl ⟨rfl,rfl,rfl,rfl⟩⟩;cases A<;>simp[Builtin.append_,run_underlying hu,sizeOf,typeInfo,h3,Builtin.lenOf,Builtin.firstCells,loadCells,loadCellsFrom]
   ·refine⟨_,_,?_,.inr (.inl ⟨b,o,cap,arr,V,rfl,hb,hlc,rfl,rfl⟩)⟩
    have hse:seg arr (o+len*size t) []=arr:=by apply Array.ext';simp[seg]
    cases A<;>simp[Builtin.append_,run_underlying hu,sizeOf,typeInfo,h3,Builtin.lenOf,Builtin.firstCells,loadCells,loadCellsFrom,hlc,storeCells,hse,setRow_self w b arr V (0,0) hb]
  ·have hf2:∀w2:World,w2.heap=w.heap→(Builtin.firstCells (size t) m (.slice (some ⟨b2,o2,none⟩) m c2)).run P w2= .ok news.toArray w2:=fun w2 h2=>
    run_firstCells_some (P:=P) w2 (size t) m ⟨b2,o2,none⟩ m c2 news hl2 (Jce (J8r (by rw[h2]) hrd2))
   have h63:∀k:Nat,k≤lim→¬((9223372036854775807:Int)<(k:Int)):=by intro k hk;omega
   rcases hb with⟨rfl,rfl,rfl⟩|⟨b,o,cap,arr,V,rfl,hlc,hb,hfit,hol,hrd⟩
   ·by_cases hm0:m=0
    ·subst hm0;refine⟨_,w,?_,.inl ⟨rfl,rfl,rfl,rfl⟩⟩;simp[Builtin.append_,run_underlying hu,sizeOf,typeInfo,h3,Builtin.lenOf,Builtin.firstCells,h4,loadCells,loadCellsFrom]
    ·have hg:=hgrow 0 (by omega);have h63m:=h63 m (by omega);simp only[K1o]at hg;refine⟨_,_,?_,.inr (.inr ⟨fun _=>hm0,hnew 0 (by omega)⟩)⟩;simp[Builtin.append_,run_underlying hu,sizeOf,typeInfo,h3,Builtin.lenOf,hm0,hg,h63m,h4,zeroValue,h6,hz0,run_firstCells_none,hf2 w.drew rfl,newRow,Question.forced,J1l,grownCap,J7m]
   ·by_cases hroom:len+m≤cap
    ·refine⟨_,_,?_,.inr (.inl ⟨b,o,cap,arr,V,rfl,hb,hroom,rfl,rfl⟩)⟩
     have hst:=run_storeCells_at P b (o+len*size t) V news 0 arr w hb (by
      simp only[K2d,hnl];have:(len+m)*size t≤cap*size t:=Kr _ hroom;rw[K1b]at this
      omega) h1
     simp only[K2d]at hst;simp[Builtin.append_,run_underlying hu,sizeOf,typeInfo,h3,Builtin.lenOf,hroom,h4,hf2 w rfl,Addr.add_none,hst,seg]
    ·have hg:=hgrow cap (by omega);have h63m:=h63 (len+m) hlim
     have hfo:∀w2:World,w2.heap=w.heap→(Builtin.firstCells (size t) len (.slice (some ⟨b,o,none⟩) len cap)).run P w2= .ok olds.toArray w2:=fun w2 h2=>
      run_firstCells_some (P:=P) w2 (size t) len ⟨b,o,none⟩ len cap olds hol (Jce (J8r (by rw[h2]) hrd))
     refine⟨_,_,?_,.inr (.inr ⟨(fun h=>by cases h),hnew cap (by omega)⟩)⟩;push_cast at h63m;simp[Builtin.append_,run_underlying hu,sizeOf,typeInfo,h3,Builtin.lenOf,hroom,hg,h63m,h4,zeroValue,h6,hz0,hf2 w.drew rfl,hfo w.drew rfl,newRow,Question.forced,J1l,grownCap,J7m]
end
end Go.Rf
namespace Go.Rf
section
variable {P:Program} {H:Hints} {w w':World} {S:Nat→Prop} {hv:Nat→Value} {F:Nat→Nat→Prop} {g gl gm:Look}
theorem Jcg{α:Type}{E:α→(Nat→Prop)→List Value→Prop}{sz:Nat}{n:Bool}{bs:List α}{Fc:Nat→Prop}{v:Value}(h:RowB w E sz n bs Fc v):
  ∃olds,Jgp w sz v bs.length olds∧((n=true∧bs=[]∧v= .slice none 0 0∧olds=[])∨
   (n=false∧∃(b o cap:Nat) (G:Nat→Nat→Prop),v= .slice (some ⟨b,o,none⟩) bs.length cap∧Fc b∧(∀i b',G i b'→Fc b'∧b'≠b)∧(∀i j b',G i b'→G j b'→i=j)∧olds.length=bs.length*sz∧
    ∀i e,bs[i]? =some e→∃c,c.length=sz∧(∀j u,c[j]? =some u→olds[i*sz+j]? =some u)∧E e (G i) c)):=by
 rcases h with⟨h1,h2,h3⟩|⟨h0,b,o,cap,arr,T,G,h1,h2,h3,h4,h5,h6,h7,h8,h9⟩
 ·subst h2;exact⟨[],.inl ⟨h3,rfl,rfl⟩,.inl ⟨h1,rfl,h3,rfl⟩⟩
 ·have hle:bs.length*sz≤cap*sz:=Kr _ h2
  have hol:((arr.toList.drop o).take (bs.length*sz)).length =bs.length*sz:=by simp;omega
  have hget:∀k,k<bs.length*sz→((arr.toList.drop o).take (bs.length*sz))[k]? =arr[o+k]? :=by
   intro k hk;rw[K2c hk,List.getElem?_drop];simp
  refine⟨(arr.toList.drop o).take (bs.length*sz),.inr ⟨b,o,cap,arr,T,h1,h2,h4,h5,hol,?_⟩,.inr ⟨h0,b,o,cap,G,h1,h6,h7,h8,hol,?_⟩⟩
  ·rw[J1t h4];intro j u hj;have:=(Kb.1 hj).1;rw[hget j (by omega)]at hj;exact hj
  ·intro i e he;obtain⟨c,k1,k2,k3⟩:=h9 i e he;refine⟨c,k1,fun j u hj=> ?_,k3⟩;have hjl:=(Kb.1 hj).1;have hi:=(Kb.1 he).1;have hle2:(i+1)*sz≤bs.length*sz:=Kr _ hi;rw[K1b,Nat.one_mul]at hle2;rw[J1t h4]at k2;rw[hget _ (by omega),←K1h];exact k2 j u hj
theorem Jaj(hf:Fit P H)(hI:Inv w S hv F g)(hl:∀c r,gl c=some r→g c=some r){T U:Nat}{t:Ty}(hT:H.ty T=some (.sl t))(ty:TypeId){v x:Value}{n dp:Bool}{bs ys:List (Den t)}{used taken fs:List Nat}{news:List Value}
  (hbase:RowB w (ERep w S dp t) (size t) n bs (FL F used) v)(hsrc:SrcC P w T U (size t) (Jf t).toArray x ys.length news)(h1:∀u∈news,u.oneCell'=true)(hlim:bs.length+ys.length≤lim)(hnl:news.length=ys.length*size t)
  (hnd:(used++taken++fs).Nodup)(hus:∀k∈used++taken,g k≠none)(hfs:∀k∈fs,gl k≠none){dp':Bool}{G2:Nat→Nat→Prop}(hG2:∀i b,G2 i b→FL F taken b)(hG2d:∀i j b,G2 i b→G2 j b→i=j)
  (hnew:Laid (fun i e c=>(dp'=true→DRep w t e (G2 i) c)∧(dp'=false→Rep w (fun b=>S b∨FL F fs b) false t e c)) news ys)
  (hold:dp'=true→dp=true∨flat t=true){d:Nat}(hd:g d=none):
  ∃v' w',(Builtin.append_ #[T,U] ty #[v,x]).run P w= .ok v' w'∧Out w S hv F g ⟨.ref d,(d,.row t dp' (n&&ys.isEmpty) (bs++ys))::(((used++taken).map fun c=>(c,Rg.gone))++frozen gl fs)⟩ v' w':=by
 obtain⟨olds,hbc,hb⟩:=Jcg hbase
 have hz:∀E i,P.underlying T=some (.slice E)→P.info? E=some i→∀z0,i.zero=some z0→z0.cells=(Jf t).toArray :=by
  intro E i hu hi z0 hz0;obtain⟨E',hu',hE'⟩:=(hf.ty T _ hT).under;rw[hu]at hu';cases hu';obtain⟨i',z',k1,_,_,k2,k3,_⟩:=(hf.ty E t hE').info;rw[hi]at k1;cases k1;rw[hz0]at k2;cases k2;apply Array.ext';simpa using k3
 obtain⟨v',w',hrun,hout⟩:=Jd4 hf hT ty hz hbc hsrc h1 hlim hnl;refine⟨v',w',hrun,?_⟩
 have hst0:J3a w w':=by
  rcases hout with⟨_,_,_,rfl⟩|⟨_,_,_,_,_,_,_,_,_,rfl⟩|⟨_,_,_,_,_,_,_,_,h⟩
  ·exact⟨rfl,rfl,rfl⟩
  ·exact⟨rfl,rfl,rfl⟩
  ·exact h
 have hplain:plain t=true:=by
  obtain⟨E,_,hE⟩:=(hf.ty T _ hT).under;exact(hf.ty E t hE).plain
 have hpos:0<size t:=by
  obtain⟨E,_,hE⟩:=(hf.ty T _ hT).under;exact(hf.ty E t hE).pos
 have hnd1:=K19.1 hnd;have hnd2:=K19.1 hnd1.1
 have hdn:d∉used++taken:=fun h=>hus d h hd
 have hdf:d∉fs:=fun h=>by
  obtain⟨r,hr⟩:=K13.1 (hfs d h);have:=hl _ _ hr;rw[hd]at this;cases this
 have hFg:∀b',FL F (used++taken) b'→FL F (d::(used++taken)) b':=fun b' ⟨k,hk,hkb⟩=>⟨k,K9 _ hk,hkb⟩
 have hFold:∀b',FL F (used++taken) b'→b'<w.heap.size:=fun b' ⟨k,hk,hkb⟩=>hI.old k b' hkb
 have hFL1:∀b',FL F used b'→FL F (used++taken) b':=fun b' ⟨k,hk,hkb⟩=>⟨k,Ke _ hk,hkb⟩
 have hFL2:∀b',FL F taken b'→FL F (used++taken) b':=fun b' ⟨k,hk,hkb⟩=>⟨k,Kw _ hk,hkb⟩
 have hut:∀b',FL F used b'→FL F taken b'→False:=by
  rintro b' ⟨k,hk,hkb⟩ ⟨k',hk',hkb'⟩
  exact hnd2.2.2 k hk k' hk' (hI.disj k k' b' hkb hkb')
 have hnil:(n=true∧bs=[]∧ys=[]∧v'= .slice none 0 0∧w'=w)→Out w S hv F g ⟨.ref d,(d,.row t dp' (n&&ys.isEmpty) (bs++ys))::(((used++taken).map fun c=>(c,Rg.gone))++frozen gl fs)⟩ v' w':=by
  rintro⟨rfl,rfl,rfl,rfl,rfl⟩
  have hs:=J30 (w':=w') (r:= .row t dp' true []) (v:= .slice none 0 0) (gs:=used++taken) (fs:=fs) (Fd:=fun _=>False) (Q:=fun _=>False) (gl:=gl) (d:=d) hI hl (fun h=>absurd hd h) (fun m h=>absurd hd h) (.inl rfl) hdn hdf (fun k h h'=>hnd1.2.2 k h k h' rfl) hus hfs
   (Kz _) (fun _ _ _=>rfl) (fun _ h=>h.elim) (fun _ h=>h.elim) (by
    intro hx;simp only[GRep,if_true]
    exact .inl ⟨rfl,rfl,rfl⟩)
  refine Out.mk (J16 g gl d _ (used++taken) fs) hs ?_;rw[J8 rfl];simp only[CRep,if_true];exact⟨by simp[J1b],rfl,trivial⟩
 have hrow:∀(blk o' cap':Nat) (arr':Array Value) (V:Nat) (G:Nat→Nat→Prop),v'= .slice (some ⟨blk,o',none⟩) (bs.length+ys.length) cap'→bs.length+ys.length≤cap'→w'.heap[blk]? =some (.cells arr' V (0,0))→o'+cap'*size t≤arr'.size→
   (∀j u,olds[j]? =some u→arr'[o'+j]? =some u)→(∀j u,news[j]? =some u→arr'[o'+bs.length*size t+j]? =some u)→(FL F used blk∨blk=w.heap.size)→w.heap.size≤w'.heap.size→(∀b',b'<w.heap.size→b'≠blk→w'.heap[b']? =w.heap[b']?)→
   (n&&ys.isEmpty)=false→(∀i b',G i b'→FL F used b'∧b'≠blk)→(∀i j b',G i b'→G j b'→i=j)→(∀i e,bs[i]? =some e→∃c,c.length=size t∧(∀j u,c[j]? =some u→olds[i*size t+j]? =some u)∧ERep w S dp t e (G i) c)→
   Out w S hv F g ⟨.ref d,(d,.row t dp' (n&&ys.isEmpty) (bs++ys))::(((used++taken).map fun c=>(c,Rg.gone))++frozen gl fs)⟩ v' w':=by
  intro blk o' cap' arr' V G e1 e2 e3 e4 e5 e6 e7 e8 e9 e10 k1 k2 k3;rw[e10];have hblk:blk<w'.heap.size:=(K1v.1 e3).1
  have hblkF:∀b',FL F taken b'→b'≠blk:=by
   rintro b' hb' rfl
   rcases e7 with h|h
   ·exact hut _ h hb'
   ·have:=hFold _ (hFL2 _ hb');omega
  have hS:∀b',(S b'∨FL F fs b'∨(dp'=false∧FL F (used++taken) b'∧b'≠blk))→b'<w.heap.size∧b'≠blk:=by
   rintro b' (h|⟨k,hk,hkb⟩|⟨_,h1,h2⟩)
   ·refine⟨hI.sold _ h,?_⟩
    rintro rfl
    rcases e7 with⟨k,_,hkb⟩|h7
    ·exact hI.shr k _ hkb h
    ·have:=hI.sold _ h;omega
   ·refine⟨hI.old k _ hkb,?_⟩
    rintro rfl
    rcases e7 with⟨k',hk',hkb'⟩|h7
    ·have:=hI.disj k k' _ hkb hkb';subst this;exact hnd1.2.2 k (Ke _ hk') k hk rfl
    ·have:=hI.old k _ hkb;omega
   ·exact⟨hFold _ h1,h2⟩
  have hs:=J30 (w':=w') (r:= .row t dp' false (bs++ys)) (v:=v') (gs:=used++taken) (fs:=fs) (Fd:=fun b'=>b'=blk∨(dp'=true∧FL F (used++taken) b')) (Q:=fun b'=>dp'=false∧FL F (used++taken) b'∧b'≠blk) (gl:=gl) (d:=d) hI hl (fun h=>absurd hd h) (fun m h=>absurd hd h) (.inl rfl) hdn hdf (fun k h h'=>hnd1.2.2 k h k h' rfl) hus hfs
   e8 (fun b' hb hn=>e9 b' hb (by
    rintro rfl
    rcases e7 with h|h
    ·exact hn (hFg _ (hFL1 _ h))
    ·omega)) (by
    rintro b' (rfl|⟨_,h⟩)
    ·refine⟨?_,hblk⟩
     rcases e7 with h|h
     ·exact .inl (hFg _ (hFL1 _ h))
     ·exact .inr (by omega)
    ·exact⟨.inl (hFg _ h),K16 (hFold _ h) e8⟩) (by
    rintro b' ⟨h1,h2,h3⟩
    refine⟨hFg _ h2,?_⟩
    rintro(h|⟨h,_⟩)
    ·exact h3 h
    ·rw[h1]at h;cases h) (by
    intro hx;simp only[GRep,if_true];refine .inr ⟨rfl,blk,o',cap',arr',V,fun i b'=>dp'=true∧(if i<bs.length then G i b' else G2 (i-bs.length) b'),by rw[e1];simp,by simpa using e2,?_,e3,e4,.inl rfl,?_,?_,?_⟩
    ·simp only[Kf]
     have:lim≤big:=by decide
     omega
    ·rintro i b' ⟨h1,h2⟩
     split at h2
     ·exact⟨.inr ⟨h1,hFL1 _ (k1 i b' h2).1⟩,(k1 i b' h2).2⟩
     ·exact⟨.inr ⟨h1,hFL2 _ (hG2 _ b' h2)⟩,hblkF _ (hG2 _ b' h2)⟩
    ·rintro i j b' ⟨_,h2⟩ ⟨_,h3⟩
     by_cases hi:i<bs.length
     ·by_cases hj:j<bs.length
      ·simp only[hi,hj,if_true]at h2 h3;exact k2 i j b' h2 h3
      ·simp only[hi,hj,if_true,if_false]at h2 h3;exact(hut b' (k1 i b' h2).1 (hG2 _ b' h3)).elim
     ·by_cases hj:j<bs.length
      ·simp only[hi,hj,if_true,if_false]at h2 h3;exact(hut b' (k1 j b' h3).1 (hG2 _ b' h2)).elim
      ·simp only[hi,hj,if_false]at h2 h3;have:=hG2d _ _ b' h2 h3;omega
    ·intro i e he
     by_cases hi:i<bs.length
     ·rw[Ko hi]at he;obtain⟨c,m1,m2,m3⟩:=k3 i e he;refine⟨c,m1,?_,?_⟩
      ·rw[J1t e3];intro j u hj;have:=e5 _ u (m2 j u hj);rwa[←K1h]at this
      ·cases dp' with
       |true=>
        have hfr:∀b',G i b'→w'.heap[b']? =w.heap[b']? :=fun b' h=>e9 b' (hFold _ (hFL1 _ (k1 i b' h).1)) (k1 i b' h).2
        cases dp with
        |true=>
         refine Jm _ _ _ _ _ (fun b' h=>⟨rfl,?_⟩) hfr m3;simp only[hi,if_true];exact h
        |false=>
         have hft:=(hold rfl).resolve_left (by simp);exact Jr _ _ _ hft m3
       |false=>
        have m4:Rep w (fun b'=>S b'∨FL F fs b'∨(false=false∧FL F (used++taken) b'∧b'≠blk)) false t e c:=by
         cases dp with
         |true=>exact Jo _ _ _ _ (fun b' h=> .inr (.inr ⟨rfl,hFL1 _ (k1 i b' h).1,(k1 i b' h).2⟩)) m3
         |false=>exact J9 (fun _ _ _ _ h=>h) (fun _ h=> .inl h) _ _ _ _ m3
        refine J9 (fun b' o v hb hc=> ?_) (fun _ h=>h) _ _ _ _ m4;obtain⟨h1,h2⟩:=hS b' hb;rw[J2o (e9 b' h1 h2)];exact hc
     ·rw[Ks (by omega)]at he;obtain⟨c,m1,m2,m3,m4⟩:=hnew _ e he;refine⟨c,m1,?_,?_⟩
      ·rw[J1t e3];intro j u hj;have:=e6 _ u (m2 j u hj);rw[←this];congr 1
       have:i*size t=bs.length*size t+(i-bs.length)*size t:=by rw[←K1b];congr 1;omega
       omega
      ·cases dp' with
       |true=>
        refine Jm _ _ _ _ _ (fun b' h=>⟨rfl,?_⟩) (fun b' h=>e9 b' (hFold _ (hFL2 _ (hG2 _ b' h))) (hblkF _ (hG2 _ b' h))) (m3 rfl);simp only[hi,if_false];exact h
       |false=>
        refine J9 (fun b' o v hb hc=> ?_) (fun b' h=> ?_) _ _ _ _ (m4 rfl)
        ·obtain⟨h1,h2⟩:=hS b' (by rcases hb with h|h;exact .inl h;exact .inr (.inl h));rw[J2o (e9 b' h1 h2)];exact hc
        ·rcases h with h|h
         ·exact .inl h
         ·exact .inr (.inl h))
  refine Out.mk (J16 g gl d _ (used++taken) fs) hs ?_;rw[J8 rfl];simp only[CRep,if_true];exact⟨by simp[J1b],by rw[e1];rfl,trivial⟩
 rcases hout with⟨h2,h3,h4,h5⟩|⟨b,o,cap,arr,V,h2,h3,h4,h5,h6⟩|⟨h2,cap,E,zs,h3,h4,h5,h6,_⟩
 ·refine hnil ?_
  rcases hb with⟨k1,k2,_,_⟩|⟨_,b,o,cap,G,k1,_⟩
  ·exact⟨k1,k2,K22 h3,by rw[h4,h2],h5⟩
  ·rw[h2]at k1;cases k1
 ·
  rcases hb with⟨_,_,k3,_⟩|⟨k0,b1,o1,cap1,G,k1,k2,k3,k4,k5,k6⟩
  ·rw[h2]at k3;cases k3
  rw[h2]at k1;cases k1
  have hfit:o+bs.length*size t+news.length≤arr.size:=by
   rcases hbc with⟨m1,_⟩|⟨b2,o2,cap2,arr2,V2,m1,m2,m3,m4,m5,m6⟩
   ·rw[h2]at m1;cases m1
   ·rw[h2]at m1;cases m1;rw[h3]at m3;cases m3;have:(bs.length+ys.length)*size t≤cap*size t:=Kr _ h4;rw[K1b]at this;omega
  have hw:w'.heap[b]? =some (.cells (seg arr (o+bs.length*size t) news) V (0,0)):=by rw[h6];exact setRow_heap w b arr _ V _ h3
  refine hrow b o cap _ V G h5 h4 hw ?_ ?_ ?_ (.inl k2) ?_ ?_ (by simp[k0]) k3 k4 k6
  ·rw[J8v hfit]
   rcases hbc with⟨m1,_⟩|⟨b2,o2,cap2,arr2,V2,m1,m2,m3,m4,m5,m6⟩
   ·rw[h2]at m1;cases m1
   ·rw[h2]at m1;cases m1;rw[h3]at m3;cases m3;exact m4
  ·intro j u hj;have hjl:=(Kb.1 hj).1;rw[J4y hfit (.inl (by omega))]
   rcases hbc with⟨m1,_⟩|⟨b2,o2,cap2,arr2,V2,m1,m2,m3,m4,m5,m6⟩
   ·rw[h2]at m1;cases m1
   ·rw[h2]at m1;cases m1;rw[h3]at m3;cases m3;rw[J1t h3]at m6;exact m6 j u hj
  ·intro j u hj;rw[Jew hfit (Kb.1 hj).1];exact hj
  ·rw[h6,Jx];exact Kz _
  ·intro b' _ hne;rw[h6];exact setRow_other _ _ _ _ hne
 ·
  have hw:∀b',w'.heap[b']? =if b'=w.heap.size then some (.cells (olds++(news++zs)).toArray E (0,0))else w.heap[b']? :=fun b'=>by rw[h5,J22]
  have hsz:w'.heap.size=w.heap.size+1:=by rw[h5];simp
  have hol:olds.length=bs.length*size t:=by
   rcases hbc with⟨_,m1,m2⟩|⟨b2,o2,cap2,arr2,V2,m1,m2,m3,m4,m5,m6⟩
   ·rw[m1,m2];simp
   ·exact m5
  have hG:∃G:Nat→Nat→Prop,(∀i b',G i b'→FL F used b')∧(∀i j b',G i b'→G j b'→i=j)∧(∀i e,bs[i]? =some e→∃c,c.length=size t∧(∀j u,c[j]? =some u→olds[i*size t+j]? =some u)∧ERep w S dp t e (G i) c):=by
   rcases hb with⟨_,k2,_,_⟩|⟨k0,b1,o1,cap1,G,k1,k2,k3,k4,k5,k6⟩
   ·subst k2;exact⟨fun _ _=>False,fun _ _ h=>h.elim,fun _ _ _ h=>h.elim,fun i e he=>by simp at he⟩
   ·exact⟨G,fun i b' h=>(k3 i b' h).1,k4,k6⟩
  obtain⟨G,g1,g2,g3⟩:=hG;refine hrow w.heap.size 0 cap _ E G h3 h4 (by rw[hw,if_pos rfl]) ?_ ?_ ?_ (.inr rfl) (by omega) (fun b' h1 h2=>by rw[hw,if_neg h2]) ?_ (fun i b' h=>⟨g1 i b' h,by have:=hFold _ (hFL1 _ (g1 i b' h));omega⟩) g2 g3
  ·simp only[List.size_toArray,Kf,hol,hnl,h6];rw[←K1h,←K1b,←K1b]
   have:bs.length+ys.length+(cap-(bs.length+ys.length))=cap:=by omega
   rw[this];omega
  ·intro j u hj;have hjl:=(Kb.1 hj).1;simp only[K1o,List.getElem?_toArray];rw[Ko hjl];exact hj
  ·intro j u hj;have hjl:=(Kb.1 hj).1;simp only[K1o,List.getElem?_toArray];rw[Ks (by omega),Ko (by omega)];rw[←hj];congr 1;omega
  ·rcases hb with⟨k1,_,k3,_⟩|⟨k0,_⟩
   ·have:=h2 k3
    cases ys with
    |nil=>simp at this
    |cons a l=>simp[k1]
   ·simp[k0]
end
end Go.Rf
namespace Go.Rf
section
variable {P:Program} {H:Hints} {w w':World} {S:Nat→Prop} {hv:Nat→Value} {F:Nat→Nat→Prop} {g gl gm:Look}
theorem Jbp{α:Type}{E:α→(Nat→Prop)→List Value→Prop}{sz:Nat}{n:Bool}{xs:List α}{Fc:Nat→Prop}{hc v:Value}{lo hi:Nat}(h:RowB w E sz n xs Fc hc)(hs:SubV hc sz lo hi v):RowB w E sz n ((xs.take hi).drop lo) Fc v:=by
 rcases h with⟨h1,h2,h3⟩|⟨h0,b,o,cap,arr,T,G,h1,h2,h3,h4,h5,h6,h7,h8,h9⟩
 ·subst h2
  rcases hs with⟨_,h5,_⟩|⟨b,o,n',cap,o',h4,_⟩
  ·exact .inl ⟨h1,by simp,h5⟩
  ·rw[h3]at h4;cases h4
 ·rcases hs with⟨h10,_⟩|⟨b',o1,n',cap',o',k1,k2,k3,k4,k5,k6,k7,k8⟩
  ·rw[h1]at h10;cases h10
  rw[h1]at k1;cases k1
  have hlen:((xs.take hi).drop lo).length =hi-lo:=by simp;omega
  refine .inr ⟨h0,b,o',cap-lo,arr,T,fun i=>G (lo+i),by rw[hlen];exact k2,by rw[hlen];omega,by rw[hlen];omega,h4,by omega,h6,fun i b' h=>h7 _ b' h,fun i j b' h h'=>by have:=h8 _ _ b' h h';omega,?_⟩;intro i e he
  have hi':i<hi-lo:=by rw[←hlen];exact(Kb.1 he).1
  rw[List.getElem?_drop,K2c (by omega)]at he;obtain⟨c,m1,m2,m3⟩:=h9 _ e he;refine⟨c,m1,?_,m3⟩;rw[k7 (by omega)]
  have:o+lo*sz+i*sz=o+(lo+i)*sz:=by rw[K1b];omega
  rw[this];exact m2
theorem Jbm{F:Nat→Nat→Prop}{c:Nat}:FL F [c]=F c:=by
 funext b;simp[FL]
theorem J94(hI:Inv w S hv F g)(hl:∀c r,gl c=some r→g c=some r){t:Ty}{a:SV}{v:Value}(hx:VR w S hv g a v){n dp:Bool}{bs:List (Den t)}{used:List Nat}(h:(Jbr gl t a).run =some (n,bs,dp,used)):
  RowB w (ERep w S dp t) (size t) n bs (FL F used) v∧(∀k∈used,g k≠none)∧used.Nodup:=by
 unfold Jbr at h;split at h
 ·simp only[M.run,K0,K6]at h;obtain⟨rfl,rfl,rfl,rfl⟩:=h;rw[J8 rfl]at hx;simp only[CRep,K10,and_true]at hx;exact⟨.inl ⟨rfl,rfl,hx⟩,by simp,by simp⟩
 ·rename_i u x;split at h
  rotate_left
  ·simp[M.run]at h
  rename_i y hy;simp only[M.run]at h
  cases hn:y.1 with
  |false=>simp[hn]at h
  |true=>
   simp only[hn,cond_true,K0,K6]at h;obtain⟨rfl,rfl,rfl,rfl⟩:=h;have:=J2n hy;simp only[K24]at this;obtain⟨rfl,hh⟩:=this;have:=eq_of_heq hh;subst this;rw[J8 rfl]at hx;simp only[CRep,Rep,K10,and_true]at hx
   rcases hx with⟨_,_,h3⟩|⟨h3,_⟩|⟨h3,_⟩
   ·exact⟨.inl ⟨rfl,rfl,h3⟩,by simp,by simp⟩
   ·rw[hn]at h3;cases h3
   ·rw[hn]at h3;cases h3
 ·rename_i c;split at h
  rotate_left
  ·simp[M.run]at h
  rename_i u dp' n' xs hc;split at h
  rotate_left
  ·simp[M.run]at h
  rename_i ys hy;simp only[M.run,K0,K6]at h;obtain⟨rfl,rfl,rfl,rfl⟩:=h;have:=J1m hy;simp only[K24]at this;obtain⟨rfl,hh⟩:=this;have:=eq_of_heq hh;subst this;have hgc:=hl _ _ hc;have:=hI.rep c _ hgc;simp only[GRep]at this;rw[J2i hx,Jbm];exact⟨this,by simp[hgc],by simp⟩
 ·rename_i c sz lo hi;split at h
  rotate_left
  ·simp[M.run]at h
  rename_i u dp' n' xs hc;split at h
  rotate_left
  ·simp[M.run]at h
  rename_i ys hy hsz;simp only[M.run,K0,K6]at h;obtain⟨rfl,rfl,rfl,rfl⟩:=h;have:=J1m hy;simp only[K24]at this;obtain⟨rfl,hh⟩:=this;have:=eq_of_heq hh;subst this
  have hsz:sz=size u:=by simpa using hsz
  subst hsz;have hgc:=hl _ _ hc;have hr:=hI.rep c _ hgc;simp only[GRep]at hr;rw[J8 rfl]at hx;simp only[CRep,K10,and_true]at hx;obtain⟨_,v',rfl,hs⟩:=hx;rw[Jbm];exact⟨Jbp hr hs,by simp[hgc],by simp⟩
 ·simp[M.run]at h
theorem J85{t:Ty}{E:Nat→Den t→List Value→Prop}{cs:List Value}{xs:List (Den t)}(h:Laid E cs xs)(hl:cs.length=xs.length*size t)(hp:0<size t)(hE:∀i e c,E i e c→∀v∈c,v.oneCell'=true):∀v∈cs,v.oneCell'=true:=by
 intro v hv;obtain⟨k,hk⟩:=List.getElem?_of_mem hv;have hkl:=(Kb.1 hk).1
 have hi:k / size t<xs.length:=by rw[Nat.div_lt_iff_lt_mul hp];omega
 obtain⟨c,h1,h2,h3⟩:=h (k / size t) xs[k / size t] (by simp[hi])
 have hj:k%size t<c.length:=by rw[h1];exact Nat.mod_lt _ hp
 have:=h2 (k%size t) c[k%size t] (by simp[hj])
 have hk2:k / size t*size t+k%size t=k:=by rw[Nat.mul_comm];exact Nat.div_add_mod k (size t)
 rw[hk2,hk]at this;simp only[K0]at this;subst this;exact hE _ _ c h3 _ (by simp)
theorem Jdp{P:Program}{T:Nat}{t:Ty}{y:Den (.sl t)}{v:Value}(hp:0<size t)(h:Rep w S false (.sl t) y [v]):
  ∃news,SrcC P w T T (size t) (Jf t).toArray v y.2.length news∧news.length=y.2.length*size t∧Laid (fun _ e c=>Rep w S false t e c) news y.2:=by
 simp only[Rep,K10,and_true]at h
 rcases h with⟨_,h2,h3⟩|⟨_,b,o,cap,h1,h2,h3,h4⟩|⟨_,h2,A,h3⟩
 ·exact⟨[],.inr ⟨rfl,.inl ⟨_,h3,by simp[h2],rfl⟩⟩,by simp[h2],fun i e he=>by simp[h2]at he⟩
 rotate_left
 ·exact⟨[],.inr ⟨rfl,.inl ⟨_,h3,by simp[h2],rfl⟩⟩,by simp[h2],fun i e he=>by simp[h2]at he⟩
 ·refine⟨(List.range (y.2.length*size t)).map fun k=>(w.cell? ⟨b,o+k,none⟩).getD undef,.inr ⟨rfl,.inr ⟨b,o,cap,h1,by simp,?_⟩⟩,by simp,?_⟩
  ·intro k u hk;have hkl:=(Kb.1 hk).1;simp at hkl;simp[K1y,List.getElem?_range hkl]at hk
   have hi:k / size t<y.2.length:=by rw[Nat.div_lt_iff_lt_mul hp];omega
   obtain⟨_,c,m1,m2,m3⟩:=h4 (k / size t) _ (Ka hi)
   have hj:k%size t<c.length:=by rw[m1];exact Nat.mod_lt _ hp
   have:=m2 (k%size t) c[k%size t] (by simp[hj])
   have hk2:k / size t*size t+k%size t=k:=by rw[Nat.mul_comm];exact Nat.div_add_mod k (size t)
   rw[K1h,hk2]at this;rw[this]at hk⊢;simpa using hk
  ·intro i e he;obtain⟨_,c,m1,m2,m3⟩:=h4 i e he;refine⟨c,m1,?_,m3⟩;intro j u hj;have hjl:=(Kb.1 hj).1;have hil:=(Kb.1 he).1;have hle:(i+1)*size t≤y.2.length*size t:=Kr _ hil;rw[K1b,Nat.one_mul]at hle;have:=m2 j u hj;rw[K1h]at this;simp[K1y,List.getElem?_range (show i*size t+j<y.2.length*size t by omega),this]
theorem Jfa{P:Program}{T:Nat}{t:Ty}{E:Den t→(Nat→Prop)→List Value→Prop}{n:Bool}{xs:List (Den t)}{Fc:Nat→Prop}{v:Value}(h:RowB w E (size t) n xs Fc v):
  ∃(news:List Value) (G:Nat→Nat→Prop),SrcC P w T T (size t) (Jf t).toArray v xs.length news∧news.length=xs.length*size t∧(∀i b,G i b→Fc b)∧(∀i j b,G i b→G j b→i=j)∧Laid (fun i e c=>E e (G i) c) news xs:=by
 obtain⟨olds,h1,h2⟩:=Jcg h
 rcases h2 with⟨_,k2,k3,k4⟩|⟨_,b,o,cap,G,k1,k2,k3,k4,k5,k6⟩
 ·exact⟨[],fun _ _=>False,.inr ⟨rfl,.inl ⟨_,k3,by simp[k2],rfl⟩⟩,by simp[k2],fun _ _ h=>h.elim,fun _ _ _ h=>h.elim,fun i e he=>by simp[k2]at he⟩
 ·refine⟨olds,G,.inr ⟨rfl,.inr ⟨b,o,cap,k1,k5,?_⟩⟩,k5,fun i b h=>(k3 i b h).1,k4,k6⟩
  rcases h1 with⟨m1,_⟩|⟨b2,o2,cap2,arr2,V2,m1,m2,m3,m4,m5,m6⟩
  ·rw[k1]at m1;cases m1
  ·rw[k1]at m1;cases m1;exact m6
end
end Go.Rf
namespace Go.Rf
section
variable {P:Program} {H:Hints} {w w':World} {S:Nat→Prop} {hv:Nat→Value} {F:Nat→Nat→Prop} {g gl gm:Look}
theorem J3j(hf:Fit P H)(hI:Inv w S hv F g)(hl:∀c r,gl c=some r→g c=some r)(o:Oper)(ρ:Operand→Value)(T U:Nat)(X Y:Operand)(ho:o.op= .call {callee:= .builtin .append,args:= #[X,Y],argTypes:= #[T,U]}){t:Ty}(hT:H.ty T=some (.sl t))
  {n dp:Bool}{bs ys:List (Den t)}{used taken fs:List Nat}{news:List Value}
  (hbase:RowB w (ERep w S dp t) (size t) n bs (FL F used) (ρ X))(hus:∀k∈used,g k≠none)(hsrc:SrcC P w T U (size t) (Jf t).toArray (ρ Y) ys.length news)(hnl:news.length=ys.length*size t)
  (hnd:(used++taken++fs).Nodup)(hta:∀k∈taken,g k≠none)(hfs:∀k∈fs,gl k≠none){dp':Bool}{G2:Nat→Nat→Prop}(hG2:∀i b,G2 i b→FL F taken b)(hG2d:∀i j b,G2 i b→G2 j b→i=j)
  (hnew:Laid (fun i e c=>(dp'=true→DRep w t e (G2 i) c)∧(dp'=false→Rep w (fun b=>S b∨FL F fs b) false t e c)) news ys)
  (hold:dp'=true→dp=true∨flat t=true){d:Nat}(hd:g d=none){upd:List (Nat×Rg)}(hupd:upd=(taken.map fun c=>(c,Rg.gone))++frozen gl fs){e:Eff}
  (he:(M.ite (decide (bs.length+ys.length≤lim)) (.ret ⟨.ref d,(d,.row t dp' (n&&ys.isEmpty) (bs++ys))::upd++used.map fun c=>(c,Rg.gone)⟩) .fail :M Eff).run =some e):
  Res P ((execOp ρ o).run P w) (Out w S hv F g e):=by
 simp only[M.run]at he
 cases hlim:decide (bs.length+ys.length≤lim)with
 |false=>simp[hlim]at he
 |true=>
  simp only[hlim,cond_true,K0]at he;subst he;have hlim:=of_decide_eq_true hlim
  have hpos:0<size t:=by
   obtain⟨E,_,hE⟩:=(hf.ty T _ hT).under;exact(hf.ty E t hE).pos
  have h1:=J85 hnew hnl hpos (fun i e c h v hv=>by
   cases hdp:dp' with
   |true=>exact J45 _ _ _ _ (h.1 hdp) v hv
   |false=>exact J87 _ _ _ (h.2 hdp) v hv)
  obtain⟨v',w',hrun,hout⟩:=Jaj hf hI hl hT o.type hbase hsrc h1 hlim hnl hnd (fun k hk=>by
   rcases Kl.1 hk with hk|hk
   ·exact hus k hk
   ·exact hta k hk) hfs hG2 hG2d hnew hold hd
  obtain⟨cs,hb⟩:=Jt (P:=P) (w:=w) o ρ _ _ _ ho;refine J1c (v:=v') (w':=w') ?_ (Out.after (e:=⟨.ref d,(d,.row t dp' (n&&ys.isEmpty) (bs++ys))::(((used++taken).map fun c=>(c,Rg.gone))++frozen gl fs)⟩) (Step'.refl hI) ?_ rfl hout)
  ·rw[hb];simp[builtin,hrun]
  ·subst hupd;funext c;simp only[J7,List.cons_append,J1a,Jq,J23,Kl];have hnd1:=(K19.1 hnd).2.2
   by_cases h1:c=d
   ·simp[h1]
   ·by_cases h2:c∈taken
    ·simp[h1,h2]
    ·by_cases h3:c∈fs
     ·have h4:c∉used:=fun h=>hnd1 c (Ke _ h) c h3 rfl
      simp[h1,h2,h3,h4]
     ·by_cases h4:c∈used<;>simp[h1,h2,h3,h4]
theorem Jf4{b:SV}{t:Ty}{y:Den (.sl t)}{l:List Nat}(h:view gl b=some (⟨.sl t,y⟩,l)):b.cell=true:=by
 cases b<;>simp[view,J17]at h⊢<;>try rfl
 ·obtain⟨⟨rfl,_⟩,_⟩:=h;rfl
 ·split at h<;>simp at h
 ·split at h<;>simp at h
theorem J54(hf:Fit P H)(hI:Inv w S hv F g)(hl:∀c r,gl c=some r→g c=some r)(o:Oper)(ρ:Operand→Value)(T U:Nat)(X Y:Operand)(ho:o.op= .call {callee:= .builtin .append,args:= #[X,Y],argTypes:= #[T,U]}){t:Ty}(hT:H.ty T=some (.sl t))
  {a b:SV}(hU:(∃k k' n,H.ty U=some (.int k)∧b= .v (.int k') n)∨(U=T∧∀k n,b≠ .v (.int k) n))(ha:VR w S hv g a (ρ X))(hb:VR w S hv g b (ρ Y)){d:Nat}(hd:gl d=none→g d=none){frz:Bool}{e:Eff}(he:(Jai gl d frz t a b).run =some e):
  Res P ((execOp ρ o).run P w) (Out w S hv F g e):=by
 have hpos:0<size t∧plain t=true:=by
  obtain⟨E,_,hE⟩:=(hf.ty T _ hT).under;exact⟨(hf.ty E t hE).pos,(hf.ty E t hE).plain⟩
 obtain⟨hpos,hpl⟩:=hpos;have hfr:=J1q he;clear he;obtain⟨hgd,he⟩:=hfr
 replace hd:=hd hgd
 rw[M.run_bind]at he
 cases hbo:(Jbr gl t a).run with
 |none=>simp[hbo]at he
 |some r=>
  obtain⟨n,bs,dp,used⟩:=r;simp only[hbo,K1k]at he;obtain⟨hbase,hus,hused1⟩:=J94 hI hl ha hbo
  have hread:∀(y:Den (.sl t)) (S1:Nat→Prop) (fs:List Nat),U=T→Rep w (fun b=>S b∨FL F fs b) false (.sl t) y [ρ Y]→(used++fs).Nodup →(∀k∈fs,gl k≠none)→∀(fs':List Nat) (dp':Bool),(dp'=true→flat t=true)→(dp'=false→fs'=fs)→(fs'=fs∨fs'=[])→
    (M.ite (decide (bs.length+y.2.length≤lim)) (.ret ⟨.ref d,(d,.row t dp' (n&&y.2.isEmpty) (bs++y.2))::frozen gl fs'++used.map fun c=>(c,Rg.gone)⟩) .fail :M Eff).run =some e→Res P ((execOp ρ o).run P w) (Out w S hv F g e):=by
   intro y _ fs hUT hR hnd hfs fs' dp' h1 h2 h3 he;subst hUT;obtain⟨news,k1,k2,k3⟩:=Jdp (P:=P) (T:=U) hpos hR;refine J3j hf hI hl o ρ U U X Y ho hT (taken:=[]) (fs:=fs') (G2:=fun _ _=>False) hbase hus k1 k2 ?_ (by simp) ?_ (fun _ _ h=>h.elim) (fun _ _ _ h=>h.elim) ?_ (fun h=> .inr (h1 h)) hd (by simp) he
   ·rcases h3 with rfl|rfl
    ·simpa using hnd
    ·simpa using hused1
   ·rcases h3 with rfl|rfl
    ·exact hfs
    ·simp
   ·intro i e he;obtain⟨c,m1,m2,m3⟩:=k3 i e he;refine⟨c,m1,m2,fun h=>Jr _ _ _ (h1 h) m3,fun h=> ?_⟩;rw[h2 h];exact m3
  split at he
  ·
   rename_i k' m
   rcases hU with⟨k,k2,n2,hU,hbb⟩|⟨_,hne⟩
   rotate_left
   ·exact absurd rfl (hne _ _)
   simp only[M.run]at he
   cases h0:decide (0≤(m:Int))with
   |false=>simp[h0]at he
   |true=>
    cases h1:decide ((m:Int)≤(lim:Int))with
    |false=>simp[h0,h1]at he
    |true=>
     simp only[h0,h1,cond_true]at he;have h0:=of_decide_eq_true h0;have h1:=of_decide_eq_true h1;obtain⟨m',rfl⟩:=Kc h0;rw[J1j]at hb;have hm':m'≤lim:=Int.ofNat_le.1 h1;have hu:P.underlying U=some (.int k):=(hf.ty U _ hU).under
     have hzs:(Jf t).toArray.size =size t:=by simp[Jg]
     refine J3j hf hI hl o ρ T U X Y ho hT (taken:=[]) (fs:=[]) (dp':=flat t&&dp) (ys:=List.replicate (Int.toNat (m':Int)) (dflt t)) (news:=(Builtin.zeroCells (Jf t).toArray m').toList) (G2:=fun _ _=>False) hbase hus
      (.inl ⟨k,k',hu,by simpa using hb.1,by simpa using hm',by simp⟩) (by simp[J2k,hzs]) (by simpa using hused1) (by simp) (by simp) (fun _ _ h=>h.elim) (fun _ _ _ h=>h.elim) ?_ (fun h=>by simp at h;exact .inl h.2) hd (by simp[frozen]) he
     intro i e' he';obtain⟨hi,rfl⟩:=getElem?_replicate_some he';refine⟨Jf t,Jg t,?_,fun _=>J44 _ t hpl,fun _=>J5l t hpl⟩;intro j v hj
     have hjl:j<size t:=by
      have:=(Kb.1 hj).1;rwa[Jg]at this
     have hle:(i+1)*size t≤m'*size t:=Kr _ (show i+1≤m' by have:i<m':=(by simpa using hi);omega);rw[K1b,Nat.one_mul]at hle;have:=Jbi (Jf t).toArray (m'*size t) i j v (by simpa using hj) (by rw[hzs];omega);rw[hzs]at this;simpa[Builtin.zeroCells,hzs]using this
  ·
   rename_i c
   rcases hU with⟨k,k2,n2,hU,hbb⟩|⟨hUT,hne⟩
   ·cases hbb
   have hvc:=J2i hb;subst hUT
   have hshow:∀(u:Ty) (dpe m:Bool) (ys:List (Den u)) (zs:List (Den t)),gl c=some (.row u dpe m ys)→J5i u t ys=some zs→(used++[c]).Nodup →∀(fs':List Nat) (dp':Bool),(dp'=true→flat t=true)→(dp'=false→fs'=[c])→(fs'=[c]∨fs'=[])→
     (M.ite (decide (bs.length+zs.length≤lim)) (.ret ⟨.ref d,(d,.row t dp' (n&&zs.isEmpty) (bs++zs))::frozen gl fs'++used.map fun c=>(c,Rg.gone)⟩) .fail :M Eff).run =some e→Res P ((execOp ρ o).run P w) (Out w S hv F g e):=by
    intro u dpe m ys zs hgc hcast hnd fs' dp' h1 h2 h3 he;have:=J1m hcast;simp only[K24]at this;obtain⟨rfl,hh⟩:=this;have:=eq_of_heq hh;subst this;have hr:=hI.rep c _ (hl _ _ hgc);simp only[GRep]at hr;have hR:=J3i (S':=fun b=>S b∨FL F [c] b) (fun _ h=> .inl h) (fun b h=> .inr (by rw[Jbm];exact h)) hr;rw[←hvc]at hR;exact hread (m,ys) S [c] rfl hR hnd (by simp[hgc]) fs' dp' h1 h2 h3 he
   have hnod:J1h (c::used)=true→(used++[c]).Nodup :=by
    intro h;have:=Ji h;rw[K1z]at this;rw[K19];exact⟨this.2,by simp,fun x hx y hy=>by simp at hy;subst hy;rintro rfl;exact this.1 hx⟩
   split at he
   ·
    rename_i u dpe' m ys hgc hfrz;split at he
    ·
     rename_i zs hcast hft hnd;have:=J1m hcast;simp only[K24]at this;obtain⟨rfl,hh⟩:=this;have:=eq_of_heq hh;subst this;have hr:=hI.rep c _ (hl _ _ hgc);simp only[GRep]at hr;obtain⟨news,G,k1,k2,k3,k4,k5⟩:=Jfa (P:=P) (T:=U) hr;rw[←hvc]at k1;refine J3j hf hI hl o ρ U U X Y ho hT (taken:=[c]) (fs:=[]) (dp':=true) (G2:=G) hbase hus k1 k2 (by simpa using hnod hnd) (by simp[hl _ _ hgc]) (by simp) (fun i b h=>by rw[Jbm];exact k3 i b h) k4 ?_ (fun _=> .inl rfl) hd (by simp[frozen]) he;intro i e' he';obtain⟨c',m1,m2,m3⟩:=k5 i e' he';exact⟨c',m1,m2,fun _=>m3,fun h=>by cases h⟩
    ·rename_i zs hcast hft hnd;exact hshow _ _ _ _ _ hgc hcast (hnod hnd) [] (flat t) (fun h=>h) (fun h=>by rw[hft]at h;cases h) (.inr rfl) (by simpa[frozen]using he)
    ·rename_i zs hcast hft hnd;exact hshow _ _ _ _ _ hgc hcast (hnod hnd) [c] false (fun h=>by cases h) (fun _=>rfl) (.inl rfl) he
    ·simp[M.run]at he
   ·
    rename_i u dpe m ys hgc _;split at he
    rotate_left
    ·simp[M.run]at he
    rename_i zs hcast hnd;split at he
    ·rename_i hft;exact hshow _ _ _ _ _ hgc hcast (hnod hnd) [] true (fun _=>hft) (fun h=>by cases h) (.inr rfl) (by simpa[frozen]using he)
    ·rename_i hft;exact hshow _ _ _ _ _ hgc hcast (hnod hnd) [c] false (fun h=>by cases h) (fun _=>rfl) (.inl rfl) he
   ·
    rename_i ww x hgc;split at he
    rotate_left
    ·simp[M.run]at he
    rename_i y hy;have:=J2n hy;simp only[K24]at this;obtain⟨rfl,hh⟩:=this;have:=eq_of_heq hh;subst this;have hr:=hI.rep c _ (hl _ _ hgc);simp only[GRep]at hr
    have hR:Rep w (fun b=>S b∨FL F [] b) false (.sl t) x [ρ Y]:=by
     rw[hvc];exact J9 (fun _ _ _ _ h=>h) (fun _ h=> .inl h) _ _ _ _ hr.2
    exact hread x S [] rfl hR (by simpa using hused1) (by simp) [] (flat t) (fun h=>h) (fun _=>rfl) (.inl rfl) (by simpa[frozen]using he)
   ·simp[M.run]at he
  ·
   rcases hU with⟨k,k2,n2,hU,hbb⟩|⟨hUT,hne⟩
   ·cases hbb
   subst hUT;rw[J8 rfl]at hb;simp only[CRep,K10,and_true]at hb;refine J3j hf hI hl o ρ U U X Y ho hT (taken:=[]) (fs:=[]) (dp':=dp) (ys:=[]) (news:=[]) (G2:=fun _ _=>False) hbase hus (.inr ⟨rfl,.inl ⟨_,hb,rfl,rfl⟩⟩) (by simp) (by simpa using hused1) (by simp) (by simp) (fun _ _ h=>h.elim) (fun _ _ _ h=>h.elim) (fun i e' he'=>by simp at he') (fun h=> .inl h) hd (upd:=[]) (by simp[frozen]) he
  ·
   rename_i hn1 hn2 hn3
   rcases hU with⟨k,k2,n2,hU,hbb⟩|⟨hUT,hne⟩
   ·exact absurd hbb (hn1 _ _)
   subst hUT;split at he
   rotate_left
   ·simp[M.run]at he
   rename_i e' l hview;split at he
   rotate_left
   ·simp[M.run]at he
   rename_i y hy hnd;have hdy:=D_to hy;subst hdy;rw[J8 (Jf4 hview)]at hb;have hR:=J2t (S':=fun b'=>S b'∨FL F l b') hI hl b _ l _ hview (fun _ h=> .inl h) (fun _ h=> .inr h) hb
   have hnd':(used++l).Nodup :=by
    have:=Ji hnd;rw[K19]at this⊢;exact⟨this.2.1,this.1,fun x hx y hy h=>this.2.2 y hy x hx h.symm⟩
   have hfs:=J3h _ _ _ hview;split at he
   ·rename_i hft;exact hread y S l rfl hR hnd' hfs [] true (fun _=>hft) (fun h=>by cases h) (.inr rfl) (by simpa[frozen]using he)
   ·rename_i hft;exact hread y S l rfl hR hnd' hfs l false (fun h=>by cases h) (fun _=>rfl) (.inl rfl) he
end
end Go.Rf
namespace Go.Rf
section
variable {P:Program} {H:Hints} {w w':World} {S:Nat→Prop} {hv:Nat→Value} {F:Nat→Nat→Prop} {g gl gm:Look}
theorem J6w(hI:Inv w S hv F g){c:Nat}{t:Ty}{dp n:Bool}{xs ks:List (Den t)}{lo:Nat}{news:List Value}(hc:g c=some (.row t dp n xs))(hft:flat t=true){b o cap:Nat}(hv':hv c= .slice (some ⟨b,o,none⟩) xs.length cap)
  (hfit:lo+ks.length≤xs.length)(hnl:news.length=ks.length*size t)(hnew:Laid (fun _ e c=>DRep w t e (fun _=>False) c) news ks):
  ∃arr T,w.heap[b]? =some (.cells arr T (0,0))∧o+lo*size t+news.length≤arr.size∧∃S' hv' F',Step' w S hv F g (w.setRow b (seg arr (o+lo*size t) news)) S' hv' F' (J5 g [(c,.row t dp n (xs.take lo++(ks++xs.drop (lo+ks.length))))]):=by
 have hr:=hI.rep c _ hc;simp only[GRep]at hr
 rcases hr with⟨_,_,h3⟩|⟨h0,b',o',cap',arr,T,G,h1,h2,h3,h4,h5,h6,h7,h8,h9⟩
 ·rw[hv']at h3;cases h3
 rw[hv']at h1;cases h1;have hle:(lo+ks.length)*size t≤cap*size t:=Kr _ (by omega);rw[K1b]at hle
 have hfit2:o+lo*size t+news.length≤arr.size:=by omega
 have hw:=setRow_heap w b arr (seg arr (o+lo*size t) news) T _ h4;refine⟨arr,T,h4,hfit2,?_⟩
 have hu:J5 g [(c,Rg.row t dp n (xs.take lo++(ks++xs.drop (lo+ks.length))))]=J1b g g c (.row t dp n (xs.take lo++(ks++xs.drop (lo+ks.length)))) [] []:=by
  have:=J16 g g c (.row t dp n (xs.take lo++(ks++xs.drop (lo+ks.length)))) [] [];simpa[frozen]using this
 have hlen:(xs.take lo++(ks++xs.drop (lo+ks.length))).length =xs.length:=by simp;omega
 rw[hu]
 refine⟨_,_,_,J30 (w':=w.setRow b (seg arr (o+lo*size t) news)) (r:= .row t dp n (xs.take lo++(ks++xs.drop (lo+ks.length)))) (v:=hv c) (gs:=[]) (fs:=[]) (Fd:=F c) (Q:=fun _=>False) (gl:=g) (d:=c) hI (fun _ _ h=>h) (fun _=>rfl) ?_ (.inl rfl) (by simp) (by simp) (by simp) (by simp) (by simp)
  (by rw[Jx];exact Kz _) (fun b' hb hn=>setRow_other _ _ _ _ (fun h=>hn ⟨c,by simp,h▸h6⟩)) (fun b' hb=>⟨.inl ⟨c,by simp,hb⟩,by rw[Jx];exact hI.old c b' hb⟩) (fun _ h=>h.elim) ?_⟩
 ·intro m _ hm;simp only[Rg.len,hlen,K0]at hm;simp[glen,hc,Rg.len,hm]
 ·intro hx;simp only[GRep,if_true]
  have hE:∀e G c',DRep w t e G c'→ERep (w.setRow b (seg arr (o+lo*size t) news)) (fun b'=>S b'∨FL F [] b'∨False) dp t e G c':=by
   intro e G c' h
   cases dp with
   |true=>exact J5v _ _ _ hft h
   |false=>exact Jo _ _ (fun _=>False) _ (fun _ h=>h.elim) (J5v _ _ _ hft h)
  refine .inr ⟨h0,b,o,cap,_,T,G,by rw[hv',hlen],by rw[hlen];exact h2,by rw[hlen];exact h3,hw,by rw[J8v hfit2];exact h5,h6,h7,h8,?_⟩;intro i e he
  have hDold:∀i e,xs[i]? =some e→∃c',c'.length=size t∧rd w b (o+i*size t) c'∧DRep w t e (G i) c':=by
   intro i e he;obtain⟨c',m1,m2,m3⟩:=h9 i e he;refine⟨c',m1,m2,?_⟩
   cases dp with
   |true=>exact m3
   |false=>exact Jr _ _ _ hft m3
  by_cases hi1:i<lo
  ·rw[Ko (by simp;omega),K2c hi1]at he;obtain⟨c',m1,m2,m3⟩:=hDold i e he;refine⟨c',m1,?_,hE _ _ _ m3⟩;rw[J1t hw];rw[J1t h4]at m2;intro j u hj;have hjl:=(Kb.1 hj).1;have hle2:(i+1)*size t≤lo*size t:=Kr _ hi1;rw[K1b,Nat.one_mul]at hle2;rw[J4y hfit2 (.inl (by omega))];exact m2 j u hj
  ·have htl:(xs.take lo).length =lo:=by simp;omega
   rw[Ks (by omega),htl]at he
   by_cases hi2:i-lo<ks.length
   ·rw[Ko hi2]at he;obtain⟨c',m1,m2,m3⟩:=hnew _ e he;refine⟨c',m1,?_,hE _ _ _ (J5v _ _ _ hft m3)⟩;rw[J1t hw];intro j u hj;have hjl:=(Kb.1 hj).1;have hm:=m2 j u hj;have hml:=(Kb.1 hm).1;rw[←hm,←Jew hfit2 hml];congr 1
    have:i*size t=lo*size t+(i-lo)*size t:=by rw[←K1b];congr 1;omega
    omega
   ·rw[Ks (by omega),List.getElem?_drop]at he
    have hii:lo+ks.length+(i-lo-ks.length)=i:=by omega
    rw[hii]at he;obtain⟨c',m1,m2,m3⟩:=hDold i e he;refine⟨c',m1,?_,hE _ _ _ m3⟩;rw[J1t hw];rw[J1t h4]at m2;intro j u hj;have hle2:(lo+ks.length)*size t≤i*size t:=Kr _ (by omega);rw[K1b]at hle2;rw[J4y hfit2 (.inr (by omega))];exact m2 j u hj
theorem Jdc{t:Ty}(hp:plain t=true)(m:Nat):Laid (fun _ e c=>DRep w t e (fun _=>False) c) (Builtin.zeroCells (Jf t).toArray m).toList (List.replicate m (dflt t)):=by
 have hzs:(Jf t).toArray.size =size t:=by simp[Jg]
 intro i e he;obtain⟨hi,rfl⟩:=getElem?_replicate_some he;refine⟨Jf t,Jg t,?_,J44 _ t hp⟩;intro j v hj
 have hjl:j<size t:=by
  have:=(Kb.1 hj).1;rwa[Jg]at this
 have hle:(i+1)*size t≤m*size t:=Kr _ hi;rw[K1b,Nat.one_mul]at hle;have:=Jbi (Jf t).toArray (m*size t) i j v (by simpa using hj) (by rw[hzs];omega);rw[hzs]at this;simpa[Builtin.zeroCells,hzs]using this
theorem J6v(hI:Inv w S hv F g){c:Nat}{r:Rg}{v:Value}{a:SV}(hc:g c=some r)(ha:VR w S hv g a v):Out w S hv F g ⟨a,[(c,r)]⟩ v w:=by
 have hu:J5 g [(c,r)]=g:=by
  funext k;rw[J7,J10];split
  ·rename_i h;rw[h,hc]
  ·rfl
 exact Out.mk hu (Step'.refl hI) ha
theorem Jdt{c sz lo hi:Nat}{v:Value}{n:Bool}{k:Nat}(hh:Hdr n k (hv c))(h:SubV (hv c) sz lo hi v)(hne:lo<hi):∃b o cap,hv c= .slice (some ⟨b,o,none⟩) k cap∧v= .slice (some ⟨b,o+lo*sz,none⟩) (hi-lo) (cap-lo):=by
 rcases h with⟨_,_,rfl,rfl⟩|⟨b,o,n',cap,o',h1,h2,h3,h4,h5,h6,h7,h8⟩
 ·omega
 ·have hn:n'=k:=by
   rcases hh with⟨_,_,h⟩|⟨_,_,b2,o2,cap2,h,_⟩
   ·rw[h1]at h;cases h
   ·rw[h1]at h;cases h;rfl
  subst hn;exact⟨b,o,cap,h1,by rw[h2,h7 (by omega)]⟩
theorem Jao(hf:Fit P H)(hI:Inv w S hv F g)(o:Oper)(ρ:Operand→Value)(T:Nat)(X:Operand)(ho:o.op= .call {callee:= .builtin .clear,args:= #[X],argTypes:= #[T]}){t:Ty}(hT:H.ty T=some (.sl t)){c lo hi:Nat}{dp n:Bool}{xs:List (Den t)}(hc:g c=some (.row t dp n xs))(hft:flat t=true)
  (hx:VR w S hv g (.sub c (size t) lo hi) (ρ X)):Res P ((execOp ρ o).run P w) (Out w S hv F g ⟨.unit,[(c,.row t dp n (xs.take lo++(List.replicate (hi-lo) (dflt t)++xs.drop hi)))]⟩):=by
 obtain⟨E,hu,hE⟩:=(hf.ty T _ hT).under;have hft':=hf.ty E t hE;obtain⟨i,z0,h3,h4,h5,h6,h7,_⟩:=hft'.info
 have hz0:z0.cells=(Jf t).toArray :=by apply Array.ext';simpa using h7
 rw[J8 rfl]at hx;simp only[CRep,K10,and_true]at hx;obtain⟨_,v',hv0,hs⟩:=hx;have hh:=J2w hI hc;obtain⟨hhi,_⟩:=Jdu hh hs;obtain⟨cs,hb⟩:=Jt (P:=P) (w:=w) o ρ _ _ _ ho;obtain⟨a0,cap0,hlen,hlohi⟩:=J89 hs
 by_cases hne:lo<hi
 ·obtain⟨b,off,cap,e1,e2⟩:=Jdt hh hs hne
  have hnl:(Builtin.zeroCells (Jf t).toArray (hi-lo)).toList.length =(List.replicate (hi-lo) (dflt t)).length *size t:=by simp[J2k,Jg]
  have hlaid:=Jdc (w:=w) hft'.plain (hi-lo);obtain⟨arr,V,k1,k2,S',hv2,F',k3⟩:=J6w hI hc hft e1 (lo:=lo) (by simp;omega) hnl hlaid;have h1:=J85 hlaid hnl hft'.pos (fun i e c h v hv=>J45 _ _ _ _ h v hv);have hst:=run_storeCells_at P b (off+lo*size t) V (Builtin.zeroCells (Jf t).toArray (hi-lo)).toList 0 arr w k1 (by simpa using k2) h1;simp only[K2d]at hst;refine J1c (v:= .tuple #[]) (w':=w.setRow b (seg arr (off+lo*size t) (Builtin.zeroCells (Jf t).toArray (hi-lo)).toList)) ?_ ⟨S',hv2,F',?_,rfl⟩
  ·rw[hb]
   have hk:hi-lo≠0:=by omega
   have hcl:(Builtin.clear_ #[T] o.type #[.slice (some ⟨b,off+lo*size t,none⟩) (hi-lo) (cap-lo)]).run P w= .ok (.tuple #[]) (w.setRow b (seg arr (off+lo*size t) (Builtin.zeroCells (Jf t).toArray (hi-lo)).toList)):=by
    obtain⟨k',hk'⟩:=Nat.exists_eq_succ_of_ne_zero hk;simp only[hk']at hst⊢;simp[Builtin.clear_,run_underlying hu,zeroValue,typeInfo,h3,h6,hz0,hst,seg]
   simp[builtin,hv0,e2,hcl]
  ·have:lo+(List.replicate (hi-lo) (dflt t)).length =hi:=by simp;omega
   rw[this]at k3;exact k3
 ·have hll:lo=hi:=by omega
  subst hll
  have hxs:xs.take lo++(List.replicate (lo-lo) (dflt t)++xs.drop lo)=xs:=by simp
  rw[hxs];refine J1c (v:= .tuple #[]) (w':=w) ?_ (J6v hI hc rfl);rw[hb];simp only[Nat.sub_self]at hlen
  have:(Builtin.clear_ #[T] o.type #[.slice a0 0 cap0]).run P w= .ok (.tuple #[]) w:=by
   cases a0<;>simp[Builtin.clear_,run_underlying hu]
  simp[builtin,hv0,hlen,this]
end
end Go.Rf
namespace Go.Rf
section
variable {P:Program} {H:Hints} {w w':World} {S:Nat→Prop} {hv:Nat→Value} {F:Nat→Nat→Prop} {g gl gm:Look}
theorem Jgh{b o k:Nat}{cs:List Value}(h:rd w b o cs):rd w b o (cs.take k):=fun j v hj=>by
 rw[List.getElem?_take]at hj;split at hj
 ·exact h j v hj
 ·cases hj
theorem J9b(hf:Fit P H)(hI:Inv w S hv F g)(o:Oper)(ρ:Operand→Value)(T U:Nat)(X Y:Operand)(ho:o.op= .call {callee:= .builtin .copy,args:= #[X,Y],argTypes:= #[T,U]}){t:Ty}(hT:H.ty T=some (.sl t)){c lo hi:Nat}{dp n:Bool}{xs:List (Den t)}(hc:g c=some (.row t dp n xs))(hft:flat t=true)
  (hs:SubV (hv c) (size t) lo hi (ρ X)){S1:Nat→Prop}{y:Den (.sl t)}(hy:Rep w S1 false (.sl t) y [ρ Y]):
  Res P ((execOp ρ o).run P w) (Out w S hv F g ⟨.v (.int .i64) ((min y.2.length (hi-lo):Nat):Int),[(c,.row t dp n (xs.take lo++(y.2.take (hi-lo)++xs.drop (lo+min y.2.length (hi-lo)))))]⟩):=by
 obtain⟨E,hu,hE⟩:=(hf.ty T _ hT).under;have hft':=hf.ty E t hE;obtain⟨i,z0,h3,h4,h5,h6,h7,_⟩:=hft'.info;obtain⟨cs,hb⟩:=Jt (P:=P) (w:=w) o ρ _ _ _ ho;have hh:=J2w hI hc;obtain⟨hhi,hbig⟩:=Jdu hh hs;obtain⟨a0,cap0,hlen,hlohi⟩:=J89 hs;obtain⟨news,h8,h9,h10⟩:=Jdp (P:=P) (T:=T) hft'.pos hy
 have hsrc:(∃A,ρ Y= .slice A 0 0∧y.2.length=0∧news=[])∨∃b o cap,ρ Y= .slice (some ⟨b,o,none⟩) y.2.length cap∧rd w b o news:=by
  rcases h8 with⟨k,_,hk,_⟩|⟨_,h8|⟨b,o,cap,h8,_,h11⟩⟩
  ·rw[hu]at hk;cases hk
  ·exact .inl h8
  ·exact .inr ⟨b,o,cap,h8,h11⟩
 have hk0:min y.2.length (hi-lo)≤big:=by omega
 by_cases hk:min y.2.length (hi-lo)=0
 ·have hxs:xs.take lo++(y.2.take (hi-lo)++xs.drop (lo+min y.2.length (hi-lo)))=xs:=by
   have:y.2.take (hi-lo)=[]:=by
    apply K22;rw[K1s];omega
   rw[this,hk];simp
  rw[hxs];refine J1c (v:= .int .i64 ((min y.2.length (hi-lo):Nat):Int)) (w':=w) ?_ (J6v hI hc (J1j.2 ⟨rfl,J2c hk0⟩));rw[hb]
  have hcp:(Builtin.copy_ #[T,U] o.type #[ρ X,ρ Y]).run P w= .ok (goInt 0) w:=by
   have hk':Nat.min y.2.length (hi-lo)=0:=hk
   rcases hsrc with⟨A,k1,k2,_⟩|⟨b,off,cap,k1,_⟩
   ·rw[hlen,k1];cases A<;>cases a0<;>simp[Builtin.copy_,run_underlying hu,Builtin.lenOf,Builtin.firstCells,sizeOf,typeInfo,h3,storeCells,loadCells,loadCellsFrom]
   ·rw[hlen,k1];cases a0<;>simp[Builtin.copy_,run_underlying hu,Builtin.lenOf,Builtin.firstCells,sizeOf,typeInfo,h3,hk',storeCells,loadCells,loadCellsFrom]
  rw[hk];simp[builtin,hcp,goInt]
 ·have hne:lo<hi:=by omega
  obtain⟨b,off,cap,e1,e2⟩:=Jdt hh hs hne
  rcases hsrc with⟨A,k1,k2,_⟩|⟨b2,off2,cap2,k1,k3⟩
  ·omega
  have hks:(y.2.take (hi-lo)).length =min y.2.length (hi-lo):=by rw[K1s];omega
  have hnl:(news.take (min y.2.length (hi-lo)*size t)).length =(y.2.take (hi-lo)).length *size t:=by
   rw[hks,K1s,h9];have:min y.2.length (hi-lo)*size t≤y.2.length*size t:=Kr _ (by omega);omega
  have hlaid:Laid (fun _ e c=>DRep w t e (fun _=>False) c) (news.take (min y.2.length (hi-lo)*size t)) (y.2.take (hi-lo)):=by
   intro i e he;have hil:=(Kb.1 he).1;rw[hks]at hil;rw[K2c (by omega)]at he;obtain⟨c',m1,m2,m3⟩:=h10 i e he;refine⟨c',m1,?_,Jr _ _ _ hft m3⟩;intro j u hj;have hjl:=(Kb.1 hj).1;have hle:(i+1)*size t≤min y.2.length (hi-lo)*size t:=Kr _ hil;rw[K1b,Nat.one_mul]at hle;rw[K2c (by omega)];exact m2 j u hj
  obtain⟨arr,V,q1,q2,S',hv2,F',q3⟩:=J6w hI hc hft e1 (lo:=lo) (by rw[hks];omega) hnl hlaid;have h1:=J85 hlaid hnl hft'.pos (fun i e c h v hv=>J45 _ _ _ _ h v hv);have hst:=run_storeCells_at P b (off+lo*size t) V (news.take (min y.2.length (hi-lo)*size t)) 0 arr w q1 (by simpa using q2) h1;simp only[K2d]at hst
  have hld:(Builtin.firstCells (size t) (Nat.min y.2.length (hi-lo)) (.slice (some ⟨b2,off2,none⟩) y.2.length cap2)).run P w= .ok (news.take (min y.2.length (hi-lo)*size t)).toArray w:=
   run_firstCells_some (P:=P) w (size t) _ ⟨b2,off2,none⟩ _ cap2 _ (by rw[hnl,hks]) (Jce (Jgh k3))
  refine J1c (v:= .int .i64 ((min y.2.length (hi-lo):Nat):Int)) (w':=w.setRow b (seg arr (off+lo*size t) (news.take (min y.2.length (hi-lo)*size t)))) ?_ ⟨S',hv2,F',?_,J1j.2 ⟨rfl,J2c hk0⟩⟩
  ·rw[hb]
   have hcp:(Builtin.copy_ #[T,U] o.type #[ρ X,ρ Y]).run P w= .ok (goInt (min y.2.length (hi-lo))) (w.setRow b (seg arr (off+lo*size t) (news.take (min y.2.length (hi-lo)*size t)))):=by
    rw[e2,k1];generalize hkk:(min y.2.length (hi-lo))=kk at hst hld⊢;have hkk':Nat.min y.2.length (hi-lo)=kk:=hkk;rw[hkk']at hld;simp[Builtin.copy_,run_underlying hu,Builtin.lenOf,sizeOf,typeInfo,h3,h4,hkk',hld,hst,seg];congr 1;omega
   simp[builtin,hcp,goInt];omega
  ·rw[hks]at q3;exact q3
theorem Jcn{t:Ty}{E:Den t→(Nat→Prop)→List Value→Prop}{n:Bool}{xs:List (Den t)}{Fc:Nat→Prop}{v:Value}(h:RowB w E (size t) n xs Fc v):SubV v (size t) 0 xs.length v:=by
 rcases h with⟨h1,h2,h3⟩|⟨h0,b,o,cap,arr,T,G,h1,h2,h3,h4,h5,h6,h7,h8,h9⟩
 ·exact .inl ⟨h3,h3,rfl,by simp[h2]⟩
 ·exact .inr ⟨b,o,xs.length,cap,o,h1,by simpa using h1,Nat.zero_le _,Kz _,h2,h3,by simp,by simp⟩
theorem J2d{mx:Bool}{k:IntKind}:∀(l:List SV) (vs:List Value) (x:Int) (a:SV),J4e mx k x l=some a→All2 (fun a v=>VR w S hv g a v) l vs→(k.min≤x∧x≤k.max)→
  ∃m:Int,a= .v (.int k) m∧(k.min≤m∧m≤k.max)∧(vs.foldlM (m:=Sem) (if mx then Builtin.max2 else Builtin.min2) (.int k x)).run P w= .ok (.int k m) w
 |[],vs,x,a,h,h2,hx=>by
  cases h2;simp only[J4e,K0]at h;exact⟨x,h.symm,hx,by simp⟩
 |b::l,v::vs,x,a,h,.cons h1 h2,hx=>by
  have hform:∃y,b= .v (.int k) y∧J4e mx k (if mx=true then(bif decide ((x:Int)<y)then y else x)else(bif decide ((y:Int)<x)then y else x)) l=some a:=by
   cases b<;>try (simp[J4e]at h;done)
   rename_i t y
   cases t<;>try (simp[J4e]at h;done)
   rename_i k';simp only[J4e]at h
   split at h<;>try (cases h;done)
   rename_i hk;have hk:k=k':=of_decide_eq_true hk;subst hk;refine⟨y,rfl,?_⟩;cases mx<;>exact h
  clear h;obtain⟨y,rfl,h⟩:=hform;rw[J1j]at h1;obtain⟨rfl,hy⟩:=h1
  cases mx with
  |true=>
   simp only[if_true]at h
   have hz:(Builtin.max2 (.int k x) (.int k y)).run P w= .ok (.int k (bif decide (x<y)then y else x)) w:=by
    by_cases h:x<y<;>simp[Builtin.max2,h]
   obtain⟨m,e1,e2,e3⟩:=J2d l vs _ a h h2 (by cases hd:decide (x<y)<;>simp[hx,hy]);refine⟨m,e1,e2,?_⟩;simp only[if_true]at e3⊢;simp only[List.foldlM_cons,Sem.run_bind,hz,Result.andThen_ok];exact e3
  |false=>
   simp only[K20,if_false]at h
   have hz:(Builtin.min2 (.int k x) (.int k y)).run P w= .ok (.int k (bif decide (y<x)then y else x)) w:=by
    by_cases h:y<x<;>simp[Builtin.min2,h]
   obtain⟨m,e1,e2,e3⟩:=J2d l vs _ a h h2 (by cases hd:decide (y<x)<;>simp[hx,hy]);refine⟨m,e1,e2,?_⟩;simp only[K20,if_false]at e3⊢;simp only[List.foldlM_cons,Sem.run_bind,hz,Result.andThen_ok];exact e3
end
end Go.Rf
namespace Go.Rf
section
variable {P:Program} {H:Hints} {w w':World} {S:Nat→Prop} {hv:Nat→Value} {F:Nat→Nat→Prop} {g gl gm:Look}
def EqAt(P:Program)(H:Hints)(w:World)(S:Nat→Prop)(t:Ty):Prop:=
 ∀(T d:Nat) (X Y:Den t) (cx cy:List Value) (x y:Value) (b:Bool),H.ty T=some t→Jw t<d→Rep w S false t X cx→Rep w S false t Y cy→Pk (isAgg t) cx x→Pk (isAgg t) cy y→eqD t X Y=some b→(Op.equalIn d T x y).run P w= .ok b w
theorem Jas(hf:Fit P H){a:Ty}(hq:EqAt P H w S a){d:Nat}(hd:Jw a<d){f:Field}{off:Nat}{X Y:Den a}{cx cy x1 x2 y1 y2:List Value}{b:Bool}(ho:f.offset=off)(hT:H.ty f.type=some a)(hn:(f.name== "_")=false)
  (hx:Rep w S false a X cx)(hy:Rep w S false a Y cy)(h1:x1.length=off)(h2:y1.length=off)(he:eqD a X Y=some b)(fs:List Field):
  (Op.eqFields d (x1++(cx++x2)).toArray (y1++(cy++y2)).toArray (f::fs)).run P w=if b=true then(Op.eqFields d (x1++(cx++x2)).toArray (y1++(cy++y2)).toArray fs).run P w else .ok false w:=by
 obtain⟨v1,k1,k2⟩:=J8t (w:=w) hf hT (c1:=x1) (c3:=x2) (Jk _ _ _ hx);obtain⟨v2,k3,k4⟩:=J8t (w:=w) hf hT (c1:=y1) (c3:=y2) (Jk _ _ _ hy);have he:=hq f.type d X Y cx cy v1 v2 b hT hd hx hy k2 k4 he;rw[h1]at k1;rw[h2]at k3
 have hn':f.name≠ "_" :=by simpa using hn
 rw[←ho]at k1 k3;simp only[Op.eqFields,hn',ne_eq,not_false_eq_true,if_true,Sem.run_bind,k1,k3,he,Result.andThen_ok];cases b<;>simp
theorem J3p(hf:Fit P H){m:Nat}(IH:∀t,Jw t<m→EqAt P H w S t):∀(fs:List Field) (t:Ty) (off:Nat) (d:Nat) (X Y:Den t) (cx cy x1 x2 y1 y2:List Value) (b:Bool),Jw t≤m→Jw t≤d→fs≠[]→
  (∀i f,fs[i]? =some f→∃q u,Je t fs.length i=some (q,u)∧f.offset=off+J3 q∧H.ty f.type=some u∧(f.name== "_")=false)→
  Rep w S false t X cx→Rep w S false t Y cy→x1.length=off→y1.length=off→eqD t X Y=some b→(Op.eqFields d (x1++(cx++x2)).toArray (y1++(cy++y2)).toArray fs).run P w= .ok b w
 |[],t,off,d,X,Y,cx,cy,x1,x2,y1,y2,b,_,_,h,_,_,_,_,_,_=>absurd rfl h
 |[f],t,off,d,X,Y,cx,cy,x1,x2,y1,y2,b,hm,hd,_,hfs,hx,hy,h1,h2,he=>by
  obtain⟨q,u,k1,k2,k3,k4⟩:=hfs 0 f rfl;cases t<;>simp[Je]at k1;rename_i a;obtain⟨rfl,rfl⟩:=k1;simp only[Rep]at hx hy;simp only[eqD]at he;simp only[Jw]at hm hd;rw[Jas hf (IH a (by omega)) (d:=d) (by omega) (by simpa[J3,Step.off]using k2) k3 k4 hx hy h1 h2 he []];cases b<;>simp[Op.eqFields]
 |f::f2::fs,t,off,d,X,Y,cx,cy,x1,x2,y1,y2,b,hm,hd,_,hfs,hx,hy,h1,h2,he=>by
  obtain⟨q,u,k1,k2,k3,k4⟩:=hfs 0 f rfl;cases t<;>simp[Je]at k1;rename_i a a2;obtain⟨rfl,rfl⟩:=k1;simp only[Rep]at hx hy;obtain⟨ca,cb,rfl,hxa,hxb⟩:=hx;obtain⟨da,db,rfl,hya,hyb⟩:=hy;simp only[Jw]at hm hd;simp only[eqD]at he
  split at he<;>try (cases he;done)
  rename_i p r hp hr;simp only[K0]at he;subst he
  have e1:∀(z1 za zb z2:List Value),z1++(za++zb++z2)=z1++(za++(zb++z2)):=fun _ _ _ _=>by simp
  have e2:∀(z1 za zb z2:List Value),z1++(za++(zb++z2))=(z1++za)++(zb++z2):=fun _ _ _ _=>by simp
  rw[e1,e1,Jas hf (IH a (by omega)) (d:=d) (by omega) (by simpa[J3,Step.off]using k2) k3 k4 hxa hya h1 h2 hp (f2::fs)]
  cases p with
  |false=>simp
  |true=>
   simp only[if_true,Ky];rw[e2,e2]
   have hla:(x1++ca).length =off+size a:=by simp[h1,Jk _ _ _ hxa]
   have hlb:(y1++da).length =off+size a:=by simp[h2,Jk _ _ _ hya]
   cases fs with
   |nil=>
    obtain⟨q,u,k1,k2,k3,k4⟩:=hfs 1 f2 rfl;simp[Je]at k1;obtain⟨rfl,rfl⟩:=k1;rw[Jas hf (IH a2 (by omega)) (d:=d) (by omega) (by simpa[J3,Step.off]using k2) k3 k4 hxb hyb hla hlb hr []];cases r<;>simp[Op.eqFields]
   |cons f3 fs=>
    refine J3p hf IH (f2::f3::fs) a2 (off+size a) d X.2 Y.2 cb db (x1++ca) x2 (y1++da) y2 r (by omega) (by omega) (by simp) ?_ hxb hyb hla hlb hr;intro i f' hi;obtain⟨q,u,k1,k2,k3,k4⟩:=hfs (i+1) f' (by simpa using hi);simp[Je]at k1;obtain⟨q',h5,h6⟩:=k1;refine⟨q',u,by simpa using h5,?_,k3,k4⟩;rw[k2,←h6];simp[J3,Step.off,K1h]
theorem J3o{E:Nat}(hE:P.underlying E=some (.int .i64))(cs:Array Value)(j:Nat)(v:Value)(h:cs[j]? =some v):(part E cs j).run P w= .ok v w:=by
 unfold part;simp only[Sem.run_bind,J4g hE,Result.andThen_ok,J4p,K20,if_false,h,Sem.run_pure]
theorem J9d{T:Nat}{t:Ty}(ha:AFit P H T t)(d:Nat)(n1 n2 m1 m2:Int):(Op.equalIn (d+1+1) T (.agg #[.int .i64 n1,.int .i64 n2]) (.agg #[.int .i64 m1,.int .i64 m2])).run P w= .ok ((n1==m1)&&(n2==m2)) w:=by
 obtain⟨_,_,_,E,h1,h2,i,h3,h4⟩:=ha;rw[run_equalIn_array w (d+1) _ _ h1 h3]
 have hc:P.cellsOf E=1:=by simp[Program.cellsOf,h3,h4]
 have e1:∀(a b:Int),(Op.equalIn (d+1) E (.int .i64 a) (.int .i64 b)).run P w= .ok (a==b) w:=fun a b=>by simp[Op.equalIn,run_underlying h2]
 have r2:List.range 2=[0,1]:=rfl;have p1:=J3o (w:=w) h2 #[.int .i64 n1,.int .i64 n2] 0 (.int .i64 n1) rfl;have p2:=J3o (w:=w) h2 #[.int .i64 m1,.int .i64 m2] 0 (.int .i64 m1) rfl;have p3:=J3o (w:=w) h2 #[.int .i64 n1,.int .i64 n2] 1 (.int .i64 n2) rfl;have p4:=J3o (w:=w) h2 #[.int .i64 m1,.int .i64 m2] 1 (.int .i64 m2) rfl;simp only[hc,r2,Op.eqItems,Sem.run_bind,Nat.mul_one,p1,p2,e1,Result.andThen_ok];cases n1==m1
 ·simp
 ·simp only[K5,K20,if_false,Sem.run_bind,p3,p4,e1,Result.andThen_ok,Ky];cases n2==m2<;>simp
theorem J4b(hf:Fit P H):∀(m:Nat) (t:Ty),Jw t<m→EqAt P H w S t
 |0,t,h=>by omega
 |m+1,t,hm=>by
  intro T d X Y cx cy x y b hT hd hx hy hpx hpy he;have hft:=hf.ty T t hT;have hu:=hft.under;have hpos:=hft.pos
  have hnt:0<Jw t:=by cases t<;>simp[Jw]
  obtain⟨d,rfl⟩:∃d',d=d'+1:=⟨d-1,by omega⟩
  have hstruct:isAgg t=true→(Op.equalIn (d+1) T x y).run P w= .ok b w:=by
   intro hag
   have hus:SFit P H T t∨AFit P H T t:=by
    unfold UFit at hu;cases t<;>simp[isAgg]at hag<;>exact hu
   rcases hus with hus|ha
   rotate_left
   ·obtain⟨_,ht,_⟩:=id ha;subst ht
    rcases hpx with⟨_,rfl⟩|⟨h,_⟩
    rotate_left
    ·cases h
    rcases hpy with⟨_,rfl⟩|⟨h,_⟩
    rotate_left
    ·cases h
    simp only[Rep]at hx hy;obtain⟨c1,c2,rfl,⟨rfl,_⟩,⟨rfl,_⟩⟩:=hx;obtain⟨d1,d2,rfl,⟨rfl,_⟩,⟨rfl,_⟩⟩:=hy;simp only[eqD,K0]at he;subst he;obtain⟨d,rfl⟩:∃d',d=d'+1:=⟨d-1,by simp only[Jw]at hd;omega⟩;exact J9d ha d _ _ _ _
   have hnf:=hus.1
   replace hus:=hus.2
   obtain⟨fs,h1,h2,h3,h4⟩:=hus
   rcases hpx with⟨_,rfl⟩|⟨h,_⟩
   rotate_left
   ·rw[hag]at h;cases h
   rcases hpy with⟨_,rfl⟩|⟨h,_⟩
   rotate_left
   ·rw[hag]at h;cases h
   have hfo:P.fieldsOf T=fs:=by simp[Program.fieldsOf,h1]
   rw[run_equalIn_struct w d T _ _ (by rw[hfo];exact h1) h3,hfo]
   by_cases hne:fs.toList=[]
   ·have:fs.size=0:=by
     have:=congrArg List.length hne;simpa using this
    exact absurd (h2▸this) hnf
   ·have:=J3p hf (m:=m) (IH:=fun t ht=>J4b hf m t ht) fs.toList t 0 d X Y cx cy [] [] [] [] b (by omega) (by omega) hne (by
     intro i f hi;obtain⟨q,u,k1,k2,k3,k4⟩:=h4 i f (by simpa using hi)
     exact⟨q,u,by simpa[h2]using k1,by simpa using k2,k3,k4⟩) hx hy rfl rfl he
    simpa using this
  cases t with
  |int k=>
   simp only[UFit]at hu;simp only[Rep]at hx hy;obtain⟨rfl,_⟩:=hx;obtain⟨rfl,_⟩:=hy
   rcases hpx with⟨h,_⟩|⟨_,h⟩
   ·cases h
   rcases hpy with⟨h',_⟩|⟨_,h'⟩
   ·cases h'
   simp at h h';subst h h';simp only[eqD,K0]at he;subst he;simp[Op.equalIn,run_underlying hu]
  |bool=>
   simp only[UFit]at hu;simp only[Rep]at hx hy;subst hx hy
   rcases hpx with⟨h,_⟩|⟨_,h⟩
   ·cases h
   rcases hpy with⟨h',_⟩|⟨_,h'⟩
   ·cases h'
   simp at h h';subst h h';simp only[eqD,K0]at he;subst he;simp[Op.equalIn,run_underlying hu]
  |nil=>simp[size]at hpos
  |one a=>exact hstruct rfl
  |pair a b=>exact hstruct rfl
  |sl u=>simp[eqD]at he
  |fn f c=>simp[eqD]at he
  |hsl t=>simp[eqD]at he
theorem J3x{t:Ty}{x:Den t}{v:Value}{n:Bool×Nat}(h:(SV.v t x).ag =some n)(hx:VR w S hv g (.v t x) v):∃cs,Pk (isAgg t) cs v∧Rep w S false t x cs:=by
 obtain⟨cs,h1,h2,_,_⟩:=J1x h hx;simp only[SV.ag,K0]at h;subst h;exact⟨cs,h1,by simpa only[CRep]using h2⟩
theorem Jfc{T:Nat}{x y:Value}{b:Bool}(hx:∀k n,x≠ .int k n)(h:(Op.equalIn Op.maxDepth T x y).run P w= .ok b w)(hn:(∃u,x= .bool u)∨(∃cs,x= .agg cs)∨(∃a n c,x= .slice a n c)):
  (binOp .eql T x y).run P w= .ok (.bool b) w∧(binOp .neq T x y).run P w= .ok (.bool (!b)) w:=by
 rcases hn with⟨u,rfl⟩|⟨cs,rfl⟩|⟨a,n,c,rfl⟩<;>constructor<;>simp[binOp,Op.equal,h]
theorem Je5(o:Oper)(ρ:Operand→Value)(op:BinOp)(T U:Nat)(x y:Operand)(ho:o.op= .binOp op T x y U)(hop:op= .eql ∨op= .neq)(hg:P.eqGuardType P.depth T=false){b:Bool}(h:(Op.equalIn Op.maxDepth T (ρ x) (ρ y)).run P w= .ok b w)
  (hn:(∃u,ρ x= .bool u)∨(∃cs,ρ x= .agg cs)∨(∃a n c,ρ x= .slice a n c)):(execOp ρ o).run P w= .ok (.value (.bool (if op= .eql then b else !b))) w:=by
 have hni:∀k n,ρ x≠ .int k n:=by rcases hn with⟨u,h⟩|⟨cs,h⟩|⟨a,n,c,h⟩<;>simp[h]
 obtain⟨h1,h2⟩:=Jfc (P:=P) (w:=w) hni h hn
 have hgd:(eqGuard op T x y (ρ x) (ρ y)).run P w= .ok () w:=by
  rcases hn with⟨u,hx⟩|⟨cs,hx⟩|⟨a,n,c,hx⟩
  ·rw[hx,eqGuard_at_bool];rfl
  ·rw[hx];unfold eqGuard
   rcases hop with rfl|rfl
   ·cases hy:ρ y<;>simp[hg]
   ·cases hy:ρ y<;>simp[hg]
  ·rw[hx,eqGuard_at_slice];rfl
 unfold execOp
 rcases hop with rfl|rfl
 ·simp[ho,hgd,h1]
 ·simp[ho,hgd,h2]
theorem J6k(hI:Inv w S hv F g)(hl:∀c r,gl c=some r→g c=some r){a:SV}{v:Value}{n:Bool}(h:VR w S hv g a v)(hn:Jem gl a=some n):∃b k c,v= .slice b k c∧n=b.isNone:=by
 have key:∀{k:Nat},HdrS n k v→∃b k c,v= .slice b k c∧n=b.isNone:=fun hh=>by
  obtain⟨b,c,h1,_,_,h2⟩:=hh.len;exact⟨b,_,c,h1,h2⟩
 cases a<;>simp only[Jem,reduceCtorEq]at hn
 case v t x=>
  cases t<;>simp at hn;subst hn;exact key (Jeb h)
 case ref c=>
  rw[J2i h];rw[J2i h]at key
  cases hg:gl c with
  |none=>simp[hg]at hn
  |some r=>
   have hgc:=hl _ _ hg;rw[hg]at hn
   cases r<;>try simp at hn
   ·subst hn;exact key (.inl (J2w hI hgc))
   ·subst hn;exact key (.inl (J5o hI hgc))
   ·rename_i t x;cases t<;>simp at hn;subst hn;exact key (Jc2 hI hgc)
 case nilv=>
  rw[J8 rfl]at h;simp only[CRep,K10,and_true]at h;exact⟨none,0,0,h,by simpa using hn.symm⟩
theorem Jdz(hf:Fit P H)(hI:Inv w S hv F g)(hl:∀c r,gl c=some r→g c=some r)(o:Oper)(ρ:Operand→Value)(op:BinOp)(T U:Nat)(x y:Operand)(ho:o.op= .binOp op T x y U){a b:SV}
  (hx:VR w S hv g a (ρ x))(hy:VR w S hv g b (ρ y)){e:Eff}(he:(binE H gl op T a b).run =some e):Res P ((execOp ρ o).run P w) (Out w S hv F g e):=by
 have hnil:∀(n:Bool) (t:Ty),H.ty T=some (.sl t)→(∃b k c,ρ x= .slice b k c∧∃b' k' c',ρ y= .slice b' k' c'∧((b'=none∧n=b.isNone)∨(b=none∧n=b'.isNone)))→(op= .eql ∨op= .neq)→e=⟨.v .bool (if op= .eql then n else !n),[]⟩→
   Res P ((execOp ρ o).run P w) (Out w S hv F g e):=by
  rintro n t hT ⟨b,k,c,h1,b',k',c',h2,h3⟩ hop rfl
  have hft:=hf.ty T _ hT;obtain⟨E,hu,_⟩:=hft.under
  have heq:(Op.equalIn Op.maxDepth T (ρ x) (ρ y)).run P w= .ok n w:=by
   obtain⟨d,hd⟩:∃d,Op.maxDepth=d+1:=⟨9999,rfl⟩;rw[h1,h2,hd]
   rcases h3 with⟨rfl,rfl⟩|⟨rfl,rfl⟩
   ·cases b<;>simp[Op.equalIn,run_underlying hu]
   ·simp[Op.equalIn,run_underlying hu]
  exact J6 (Je5 o ρ op T U x y ho hop hft.guard heq (.inr (.inr ⟨b,k,c,h1⟩))) (J1y hI)
 have hnilE:∀(z:SV),(match H.ty T with
   |some (.sl _)=>(match op,Jem gl z with
    | .eql,some n=>(.ret ⟨.v .bool n,[]⟩:M Eff)
    | .neq,some n=> .ret ⟨.v .bool (!n),[]⟩
    |_,_=> .fail)
   |_=> .fail).run =some e→∃n t,H.ty T=some (.sl t)∧Jem gl z=some n∧(op= .eql ∨op= .neq)∧e=⟨.v .bool (if op= .eql then n else !n),[]⟩:=by
  intro z h;split at h
  rotate_left
  ·simp[M.run]at h
  rename_i t hT;split at h
  ·rename_i n hn;simp only[M.run,K0]at h;exact⟨n,t,hT,hn,.inl rfl,h.symm⟩
  ·rename_i n hn;simp only[M.run,K0]at h;exact⟨n,t,hT,hn,.inr rfl,h.symm⟩
  ·simp[M.run]at h
 have hnv:∀v,VR w S hv g .nilv v→v= .slice none 0 0:=fun v h=>by
  rw[J8 rfl]at h;simpa only[CRep,K10,and_true]using h
 have he0:=he;unfold binE at he;dsimp only at he;split at he
 ·exact J96 hI gl o ρ op T U x y ho hx hy he0
 ·obtain⟨n,t,hT,hn,hop,rfl⟩:=hnilE _ he;obtain⟨b,k,c,h1,h2⟩:=J6k hI hl hx hn;exact hnil n t hT ⟨b,k,c,h1,none,0,0,hnv _ hy,.inl ⟨rfl,h2⟩⟩ hop rfl
 ·obtain⟨n,t,hT,hn,hop,rfl⟩:=hnilE _ he;obtain⟨b,k,c,h1,h2⟩:=J6k hI hl hy hn;exact hnil n t hT ⟨none,0,0,hnv _ hx,b,k,c,h1,.inr ⟨rfl,h2⟩⟩ hop rfl
 ·rename_i t X u Y hnint;split at he
  rotate_left
  ·simp[M.run]at he
  rename_i Y' t' hc hT;split at he
  rotate_left
  ·simp[M.run]at he
  rename_i htt;have htt:t=t':=of_decide_eq_true htt;subst htt;have:=J2n hc;simp only[K24]at this;obtain⟨rfl,hh⟩:=this;have:=eq_of_heq hh;subst this;have hft:=hf.ty T _ hT;obtain⟨cx,p1,p2⟩:=J3x (n:=(isAgg u,size u)) rfl hx;obtain⟨cy,p3,p4⟩:=J3x (n:=(isAgg u,size u)) rfl hy
  have hmain:∀n,eqD u X Y=some n→(op= .eql ∨op= .neq)→e=⟨.v .bool (if op= .eql then n else !n),[]⟩→Res P ((execOp ρ o).run P w) (Out w S hv F g e):=by
   rintro n hn hop rfl
   have heq:=J4b hf 1000 u hft.small T Op.maxDepth X Y cx cy (ρ x) (ρ y) n hT (by have:=hft.small;simp only[Op.maxDepth];omega) p2 p4 p1 p3 hn;refine J6 (Je5 o ρ op T U x y ho hop hft.guard heq ?_) (J1y hI)
   rcases p1 with⟨_,h⟩|⟨ha,h⟩
   ·exact .inr (.inl ⟨_,h⟩)
   ·cases u with
    |int k=>exact(hnint k X k Y rfl HEq.rfl rfl HEq.rfl).elim
    |bool=>
     simp only[Rep]at p2;rw[h]at p2;simp at p2;exact .inl ⟨_,p2⟩
    |nil=>simp[isAgg]at ha
    |one a=>simp[isAgg]at ha
    |pair a b=>simp[isAgg]at ha
    |sl a=>simp[eqD]at hn
    |fn f c=>simp[eqD]at hn
    |hsl t=>simp[eqD]at hn
  split at he
  ·rename_i n hn;simp only[M.run,K0]at he;exact hmain n hn (.inl rfl) he.symm
  ·rename_i n hn;simp only[M.run,K0]at he;exact hmain n hn (.inr rfl) he.symm
  ·simp[M.run]at he
 ·simp[M.run]at he
end
end Go.Rf
namespace Go.Rf
section
variable {P:Program} {H:Hints} {w w':World} {S:Nat→Prop} {hv:Nat→Value} {F:Nat→Nat→Prop} {g gl:Look}
theorem Jdd(hf:Fit P H){T:Nat}(hT:H.ty T=some (.pair (.int .i64) (.int .i64)))(h0:H.nf T=0):AFit P H T (.pair (.int .i64) (.int .i64)):=by
 have hu:=(hf.ty T _ hT).under;simp only[UFit]at hu;exact hu.elim (fun h=>absurd h0 h.1) id
theorem J9u{T:Nat}{t:Ty}(ha:AFit P H T t){b o:Nat}{k:IntKind}{n:Int}(h:n=0∨n=1):
  (Instr.indexAt T (.pointer (some ⟨b,o,none⟩)) (.int k n)).run P w= .ok (.pointer (some ⟨b,o+n.toNat,none⟩)) w:=by
 obtain⟨_,_,_,E,h1,h2,i,h3,h4⟩:=ha
 have h5:0≤n:=by omega
 have h6:n<2:=by omega
 unfold Instr.indexAt;simp[run_underlying h1,asIntOf,Instr.sureAddr,h5,h6,Jz h3,h4,Addr.add_none]
theorem J3q(hf:Fit P H)(hI:Inv w S hv F g)(o:Oper)(ρ:Operand→Value)(T:Nat)(x i:Operand)(ho:o.op= .indexAddr T x i){t:Ty}(ha:AFit P H T t){c:Nat}{r:List Step}(hx:VR w S hv g (.ptr c r) (ρ x)){k:IntKind}{n:Int}(hi:VR w S hv g (.v (.int k) n) (ρ i)){s:Step}(hs:(n=0∧s= .fst)∨(n=1∧s= .snd 1)):
  Res P ((execOp ρ o).run P w) (Out w S hv F g ⟨.ptr c (r++[s]),[]⟩):=by
 rw[J1j]at hi;rw[J8 rfl]at hx;simp only[CRep,K10,and_true]at hx;obtain⟨h1,h2,h3,h4⟩:=hx;obtain⟨b,o',_,h5⟩:=J5z h3
 have hn:n=0∨n=1:=by rcases hs with⟨h,_⟩|⟨h,_⟩<;>simp[h]
 have hoff:J3 (r++[s])=J3 r+n.toNat:=by
  rw[J3s]
  rcases hs with⟨rfl,rfl⟩|⟨rfl,rfl⟩<;>simp[J3,Step.off]
 refine J6 (v:=adr (hv c) (J3 (r++[s]))) ?_ (Out.same hI ?_)
 ·unfold execOp;simp[ho,h2,h5,hi.1,J9u ha hn,hoff,K1h]
 ·rw[J8 rfl];simp only[CRep];refine⟨h1,trivial,h3,J53 ⟨by simp,fun s' hs' j z=> ?_⟩ h4⟩;simp only[Kn]at hs';subst hs'
  rcases hs with⟨_,rfl⟩|⟨_,rfl⟩<;>simp
def J39(k:Ty):Prop:=k= .int .i64 ∨k= .pair (.int .i64) (.int .i64)
def keyV:(k:Ty)→Den k→Value
 | .int _,n=> .int .i64 n
 | .pair (.int _) (.int _),p=> .agg #[.int .i64 p.1,.int .i64 p.2]
 |_,_=> .nilFunc
def eqb:(k:Ty)→Den k→Den k→Bool
 | .int _,x,y=>(x:Int)==(y:Int)
 | .pair (.int _) (.int _),x,y=>((x.1:Int)==(y.1:Int))&&((x.2:Int)==(y.2:Int))
 |_,_,_=>false
theorem Je4{k:Ty}(hk:J39 k)(x y:Den k):(eqD k x y==some true)=eqb k x y:=by
 rcases hk with rfl|rfl
 ·simp only[eqD,eqb];cases((x:Int)==(y:Int))<;>rfl
 ·simp only[eqD,eqb];cases((x.1:Int)==(y.1:Int))<;>cases((x.2:Int)==(y.2:Int))<;>rfl
theorem Jgv{k:Ty}(hk:J39 k){x y:Den k}(h:eqb k x y=true):x=y:=by
 rcases hk with rfl|rfl
 ·simp only[eqb,beq_iff_eq]at h;exact h
 ·simp only[eqb,K7,beq_iff_eq]at h;exact Prod.ext h.1 h.2
theorem Jdn{k:Ty}(hk:J39 k){x:Den k}{cs:List Value}{v:Value}(hp:Pk (isAgg k) cs v)(hr:Rep w S false k x cs):v=keyV k x:=by
 rcases hk with rfl|rfl
 ·simp only[Rep]at hr
  rcases hp with⟨h,_⟩|⟨_,h⟩
  ·cases h
  ·rw[hr.1]at h;simp only[K10,and_true]at h;rw[←h];rfl
 ·simp only[Rep]at hr;obtain⟨c1,c2,rfl,⟨rfl,_⟩,⟨rfl,_⟩⟩:=hr
  rcases hp with⟨_,h⟩|⟨h,_⟩
  ·rw[h];rfl
  ·cases h
structure MFit (P:Program) (H:Hints) (T K E:Nat) (k v:Ty):Prop where
 map:P.underlying T=some (.map K E)
 key:H.ty K=some k
 val:H.ty E=some v
 isv:v= .int .i64
 isk:(k= .int .i64 ∧P.underlying K=some (.int .i64))∨(k= .pair (.int .i64) (.int .i64)∧AFit P H K k)
theorem J86(hf:Fit P H){T:Nat}{k v:Ty}(h:Jb6 H T=some (k,v)):∃K E,MFit P H T K E k v:=by
 unfold Jb6 at h;split at h
 ·rename_i K E hm;split at h
  ·rename_i hK hE;simp only[K0,K6]at h;obtain⟨rfl,rfl⟩:=h;exact⟨K,E,hf.maps T K E hm,hK,hE,rfl,.inl ⟨rfl,(hf.ty K _ hK).under⟩⟩
  ·rename_i hK hE;split at h
   ·rename_i h0;simp only[K0,K6]at h;obtain⟨rfl,rfl⟩:=h;exact⟨K,E,hf.maps T K E hm,hK,hE,rfl,.inr ⟨rfl,Jdd hf hK h0⟩⟩
   ·cases h
  ·cases h
 ·cases h
theorem MFit.isKey{T K E:Nat}{k v:Ty}(h:MFit P H T K E k v):J39 k:=h.isk.elim (fun h=> .inl h.1) fun h=> .inr h.1
theorem J6r{T K E:Nat}{k v:Ty}(hm:MFit P H T K E k v)(em:Bool)(x:Den k):(Instr.checkKey em 10000 K (keyV k x)).run P w= .ok () w:=by
 have one:∀(n:Nat) (E:Nat) (y:Int),P.underlying E=some (.int .i64)→(Instr.checkKey em (n+1) E (.int .i64 y)).run P w= .ok () w:=by
  intro n E y hE;unfold Instr.checkKey;simp[run_underlying hE]
 rcases hm.isk with⟨rfl,hK⟩|⟨rfl,ha⟩
 ·exact one 9999 K x hK
 ·obtain⟨_,_,_,A,h1,h2,i,h3,h4⟩:=ha;show(Instr.checkKey em (9999+1) K (.agg #[.int .i64 x.1,.int .i64 x.2])).run P w= .ok () w;unfold Instr.checkKey;have p1:=J3o (w:=w) h2 #[.int .i64 x.1,.int .i64 x.2] 0 (.int .i64 x.1) rfl;have p2:=J3o (w:=w) h2 #[.int .i64 x.1,.int .i64 x.2] 1 (.int .i64 x.2) rfl;have r2:List.range' 0 2=[0,1]:=rfl;simp only[Sem.run_bind,run_underlying h1,Result.andThen_ok];simp[Std.Legacy.Range.forIn_eq_forIn_range',Std.Legacy.Range.size,r2,Jz h3,h4,p1,p2,one 9998 A x.1 h2,one 9998 A x.2 h2]
def J4v{α:Type}(q:α→Bool):List α→List MapEntry→Nat→Option (Nat×Value)
 |e::es,m::l,i=>if q e=true then some (i,m.val)else J4v q es l (i+1)
 |_,_,_=>none
theorem J9g{α:Type}(q:α→Bool):∀(es:List α) (l:List MapEntry) (i:Nat),es.length=l.length→J4v q es l i=(es.findIdx? q).map fun j=>(i+j,((l[j]?).map (·.val)).getD .nilFunc)
 |[],l,i,_=>by simp[J4v]
 |e::es,[],i,h=>by simp at h
 |e::es,m::l,i,h=>by
  rw[J4v,List.findIdx?_cons]
  by_cases hq:q e=true
  ·simp[hq]
  ·rw[if_neg hq,J9g q es l (i+1) (by simpa using h)];simp only[hq,K20,if_false,Option.map_map];congr 1;funext j;simp only[Function.comp,List.getElem?_cons_succ,K6,and_true];omega
def Ents(k v:Ty)(l:List MapEntry)(es:List (Den (.pair k v))):Prop:=l.length=es.length∧∀(j:Nat) (m:MapEntry) (e:Den (.pair k v)),l[j]? =some m→es[j]? =some e→m.key=keyV k e.1∧m.val=keyV v e.2
theorem Ents.tail{k v:Ty}{m:MapEntry}{l:List MapEntry}{e:Den (.pair k v)}{es:List (Den (.pair k v))}(h:Ents k v (m::l) (e::es)):Ents k v l es:=
 ⟨by simpa using h.1,fun j m' e' h1 h2=>h.2 (j+1) m' e' (by simpa using h1) (by simpa using h2)⟩
theorem J69(n:Int):∀(l:List MapEntry) (es:List (Den (.pair (.int .i64) (.int .i64)))) (i:Nat),Ents (.int .i64) (.int .i64) l es→
  Instr.findNow (.int .i64) (.int .i64 n) l i=some (J4v (fun e=>eqb (.int .i64) n e.1) es l i)
 |[],es,i,h=>by cases es<;>simp[Instr.findNow,J4v]
 |m::l,[],i,h=>by have:=h.1;simp at this
 |m::l,e::es,i,h=>by
  obtain⟨h1,h2⟩:=h.2 0 m e rfl rfl;have ih:=J69 n l es (i+1) h.tail
  have hs:Instr.sameNow (.int .i64) (.int .i64 n) m.key=some (eqb (.int .i64) n e.1):=by
   rw[h1];simp only[keyV,Instr.sameNow,if_true];rfl
  rw[Instr.findNow,hs,J4v]
  by_cases hb:eqb (.int .i64) n e.1=true
  ·rw[hb,if_pos rfl]
  ·have hb':eqb (.int .i64) n e.1=false:=by simpa using hb
   rw[hb',if_neg (by decide)];exact ih
theorem J68{K:Nat}(ha:AFit P H K (.pair (.int .i64) (.int .i64)))(x:Den (.pair (.int .i64) (.int .i64))):∀(l:List MapEntry) (es:List (Den (.pair (.pair (.int .i64) (.int .i64)) (.int .i64)))) (i:Nat),Ents (.pair (.int .i64) (.int .i64)) (.int .i64) l es→
  (Instr.findAsking K (keyV (.pair (.int .i64) (.int .i64)) x) l i).run P w= .ok (J4v (fun e=>eqb (.pair (.int .i64) (.int .i64)) x e.1) es l i) w
 |[],es,i,h=>by cases es<;>simp[Instr.findAsking,J4v]
 |m::l,[],i,h=>by have:=h.1;simp at this
 |m::l,e::es,i,h=>by
  obtain⟨h1,h2⟩:=h.2 0 m e rfl rfl;have ih:=J68 ha x l es (i+1) h.tail
  have he:(Op.equal K (keyV (.pair (.int .i64) (.int .i64)) x) m.key).run P w= .ok (eqb (.pair (.int .i64) (.int .i64)) x e.1) w:=by
   rw[h1];exact J9d ha 9998 _ _ _ _
  rw[Instr.findAsking,J4v];simp only[Sem.run_bind,he,Result.andThen_ok]
  cases hq:eqb (.pair (.int .i64) (.int .i64)) x e.1 with
  |true=>simp
  |false=>simp[ih]
theorem Jch{T K E:Nat}{k v:Ty}(hm:MFit P H T K E k v)(x:Den k)(l:List MapEntry)(es:List (Den (.pair k v)))(h:Ents k v l es):
  (Instr.findKey K (keyV k x) l).run P w= .ok (J4v (fun e=>eqb k x e.1) es l 0) w:=by
 obtain⟨_,_,_,rfl,hk⟩:=hm
 rcases hk with⟨rfl,hK⟩|⟨rfl,ha⟩
 ·simp[Instr.findKey,run_underlying hK,show keyV (.int .i64) x= .int .i64 x from rfl,J69 x l es 0 h]
 ·obtain⟨A,h1,_⟩:=ha.2.2.2
  cases l with
  |nil=>cases es<;>simp[Instr.findKey,run_underlying h1,Instr.findNow,J4v]
  |cons m l=>
   cases es with
   |nil=>have:=h.1;simp at this
   |cons e es=>
    obtain⟨h3,_⟩:=h.2 0 m e rfl rfl
    have hno:Instr.findNow (.array 2 A) (keyV (.pair (.int .i64) (.int .i64)) x) (m::l) 0=none:=by
     rw[Instr.findNow,h3];simp only[keyV,Instr.sameNow]
    have:=J68 (w:=w) ha x (m::l) (e::es) 0 h;simp[Instr.findKey,run_underlying h1,hno,this]
theorem J5a{k v:Ty}(hk:J39 k)(x:Den k)(l:List MapEntry)(es:List (Den (.pair k v)))(h:es.length=l.length):
  J4v (fun e=>eqb k x e.1) es l 0=(J1o k v es x).map fun j=>(j,((l[j]?).map (·.val)).getD .nilFunc):=by
 rw[J9g _ es l 0 h,J1o];simp only[Je4 hk,K1o]
theorem Jdg{k v:Ty}(hk:J39 k)(hv':J39 v){arr:Array MapEntry}{es:List (Den (.pair k v))}(h4:arr.size=es.length)(h5:∀(i:Nat) (m:MapEntry) (e:Den (.pair k v)),arr[i]? =some m→es[i]? =some e→MEnt w S k v m e):Ents k v arr.toList es:=by
 refine⟨by simpa using h4,fun j m e h1 h2=> ?_⟩;obtain⟨⟨cs,p1,p2⟩,ds,p3,p4⟩:=h5 j m e (by simpa using h1) h2;exact⟨Jdn hk p1 p2,Jdn hv' p3 p4⟩
theorem J3n{k v:Ty}{es:List (Den (.pair k v))}{x:Den k}{j:Nat}(h:J1o k v es x=some j):j<es.length∧∀e,es[j]? =some e→(eqD k x e.1==some true)=true:=by
 unfold J1o at h;rw[List.findIdx?_eq_some_iff_getElem]at h;obtain⟨h1,h2,_⟩:=h;refine⟨h1,fun e he=> ?_⟩;rw[Ka h1]at he;cases he;exact h2
theorem Jd1{k v:Ty}{a:SV}{c:Nat}{es:List (Den (.pair k v))}(h:Jd0 gl k v a=some (c,es)):a= .ref c∧gl c=some (.map k v es):=by
 unfold Jd0 at h;split at h
 ·rename_i c';split at h
  ·rename_i k' v' es' hg;split at h
   ·rename_i ys hc;simp only[K0,K6]at h;obtain⟨rfl,rfl⟩:=h;refine⟨rfl,?_⟩;rw[hg];unfold J5i at hc;split at hc
    ·rename_i he;cases he;simp only[K0]at hc;subst hc;rfl
    ·cases hc
   ·cases h
  ·cases h
 ·cases h
end
end Go.Rf
namespace Go.Rf
section
variable {P:Program} {H:Hints} {w w':World} {S:Nat→Prop} {hv:Nat→Value} {F:Nat→Nat→Prop} {g gl:Look}
theorem Jc3{r:Nat}{o o':Obj}(hb:w.heap[r]? =some o):(w.heap.setIfInBounds r o')[r]? =some o'∧∀r',r'≠r→(w.heap.setIfInBounds r o')[r']? =w.heap[r']? :=by
 have hlt:r<w.heap.size:=(K1v.1 hb).1;exact⟨by simp[hlt],fun r' hne=>by simp[Ne.symm hne]⟩
theorem J32{r:Nat}{es:Array MapEntry}{clock:Nat}(hb:w.heap[r]? =some (.map es clock)):(getObj r).run P w= .ok (.map es clock) w:=by
 simp[getObj,Sem.run,hb]
theorem J6u{r:Nat}{es:Array MapEntry}{clock:Nat}(o:Obj)(hb:w.heap[r]? =some (.map es clock)):(setObj r o).run P w= .ok () {w with heap:=w.heap.setIfInBounds r o}:=by
 simp[setObj,Sem.run,hb]
theorem Jc7(hI:Inv w S hv F g){d:Nat}{k v:Ty}(hfl:flat k=true∧flat v=true){es:List (Den (.pair k v))}{b:Nat}{hd:Value}{arr:Array MapEntry}{clk:Nat}
  (hhd:hd= .map (some b))(hdv:g d≠none→hd=hv d)(hlenn:∀n,g d≠none→(Rg.map k v es).len =some n→glen g d=some n)
  (hb:(g d=none∧b=w.heap.size)∨F d b)(hsz:w.heap.size≤w'.heap.size)(hblt:b<w'.heap.size)(hat:w'.heap[b]? =some (.map arr clk))(hfr:∀b',b'<w.heap.size→b'≠b→w'.heap[b']? =w.heap[b']?)
  (hn:arr.size=es.length)(hent:J52 S w w'→∀(i:Nat) (m:MapEntry) (e:Den (.pair k v)),arr[i]? =some m→es[i]? =some e→MEnt w' S k v m e)(hstill:J3a w w'):
  Out w S hv F g ⟨.unit,[(d,.map k v es)]⟩ (.tuple #[]) w'∧Out w S hv F g ⟨.ref d,[(d,.map k v es)]⟩ hd w':=by
 have hFb:∀b',F d b'→b'<w.heap.size:=fun b' h=>hI.old d b' h
 have hs:=J30 (gl:=g) (d:=d) (r:= .map k v es) (v:=hd) (gs:=[]) (fs:=[]) (Fd:=fun b'=>b'=b) (Q:=fun _=>False) (w':=w') hI (fun _ _ h=>h) hdv hlenn (.inl rfl) (by simp) (by simp) (by simp) (by simp) (by simp) hsz
  (fun b' h1 h2=>hfr b' h1 fun e=>by
   subst e
   rcases hb with⟨_,h⟩|h
   ·omega
   ·exact h2 ⟨d,by simp,h⟩)
  (fun b' h=>by
   have h:b'=b:=h;subst h;refine⟨?_,hblt⟩
   rcases hb with⟨_,h⟩|h
   ·exact .inr (by omega)
   ·exact .inl ⟨d,by simp,h⟩)
  (fun b' h=>h.elim) (fun hx=>by
   simp only[GRep,if_true];refine⟨hfl,b,arr,clk,hhd,hat,rfl,hn,fun i m e h1 h2=> ?_⟩;obtain⟨⟨cs,p1,p2⟩,ds,p3,p4⟩:=hent hx.keep i m e h1 h2
   exact⟨⟨cs,p1,J9 (fun _ _ _ _ h=>h) hx.sub _ _ _ _ p2⟩,ds,p3,J9 (fun _ _ _ _ h=>h) hx.sub _ _ _ _ p4⟩) hstill
 refine⟨Out.mk (J16 g g d _ [] []) hs rfl,Out.mk (J16 g g d _ [] []) hs ?_⟩;rw[J8 rfl];simp only[CRep,if_true];exact⟨by simp[J1b],by rw[hhd];rfl,trivial⟩
theorem J8o(hf:Fit P H)(hI:Inv w S hv F g)(o:Oper)(ρ:Operand→Value)(T:Nat)(ho:o.op= .makeMap T none){k v:Ty}(hm:Jb6 H T=some (k,v)){d:Nat}(hd:g d=none):
  Res P ((execOp ρ o).run P w) (Out w S hv F g ⟨.ref d,[(d,.map k v [])]⟩):=by
 obtain⟨K,E,hM⟩:=J86 hf hm
 have hfl:flat k=true∧flat v=true:=by
  rw[hM.isv]
  rcases hM.isKey with rfl|rfl<;>exact⟨rfl,rfl⟩
 refine J1c (v:= .map (some w.heap.size)) (w':=w.alloc (.map #[] 0)) ?_ (Jc7 (w':=w.alloc (.map #[] 0)) (b:=w.heap.size) (arr:= #[]) (clk:=0) hI hfl rfl (fun h=>absurd hd h) (fun n h=>absurd hd h) (.inl ⟨hd,rfl⟩) (by simp) (by simp) (by rw[J22,if_pos rfl]) (fun b' h hne=>by rw[J22,if_neg hne]) rfl (fun _ i m e h=>by simp at h) ⟨rfl,rfl,rfl⟩).2;unfold execOp;simp[ho,Instr.makeMap]
theorem J4r{t:Ty}{a:SV}{x:Den t}(h:Je2 t a=some x):a= .v t x:=by
 unfold Je2 at h;split at h
 ·rename_i u y;unfold cast at h;split at h
  ·rename_i he;subst he;simp only[K0]at h;subst h;rfl
  ·cases h
 ·cases h
theorem J8n{t:Ty}(ht:J39 t){x:Den t}{v:Value}(h:VR w S hv g (.v t x) v):v=keyV t x∧∃cs,Pk (isAgg t) cs v∧Rep w S false t x cs:=by
 have hag:(SV.v t x).ag =some (isAgg t,size t):=rfl;obtain⟨cs,p1,p2⟩:=J3x hag h;exact⟨Jdn ht p1 p2,cs,p1,p2⟩
theorem Jel(hI:Inv w S hv F g)(hl:∀c r,gl c=some r→g c=some r){k v:Ty}{a:SV}{c:Nat}{es:List (Den (.pair k v))}{m:Value}(h:Jd0 gl k v a=some (c,es))(hx:VR w S hv g a m):
  a= .ref c∧g c=some (.map k v es)∧m=hv c∧∃b arr clk,hv c= .map (some b)∧w.heap[b]? =some (.map arr clk)∧F c b∧arr.size=es.length∧(flat k=true∧flat v=true)∧∀(i:Nat) (m:MapEntry) (e:Den (.pair k v)),arr[i]? =some m→es[i]? =some e→MEnt w S k v m e:=by
 obtain⟨rfl,hg⟩:=Jd1 h;have hg':=hl _ _ hg;have hr:=hI.rep c _ hg';simp only[GRep]at hr;obtain⟨hfl,b,arr,clk,h1,h2,h3,h4,h5⟩:=hr;exact⟨rfl,hg',J2i hx,b,arr,clk,h1,h2,h3,h4,hfl,h5⟩
theorem J9j(hf:Fit P H)(hI:Inv w S hv F g)(hl:∀c r,gl c=some r→g c=some r)(o:Oper)(ρ:Operand→Value)(T:Nat)(x:Operand)(ho:o.op= .call {callee:= .builtin .len,args:= #[x],argTypes:= #[T]}){a:SV}(hx:VR w S hv g a (ρ x)){e:Eff}(he:(Jb5 H gl T a).run =some e):
  Res P ((execOp ρ o).run P w) (Out w S hv F g e):=by
 unfold Jb5 at he;split at he
 rotate_left
 ·simp[M.run]at he
 rename_i k v hm;obtain⟨K,E,hM⟩:=J86 hf hm;split at he
 rotate_left
 ·simp[M.run]at he
 rename_i c es ha;obtain⟨rfl,hg,hxv,b,arr,clk,h1,h2,h3,h4,_,h5⟩:=Jel hI hl ha hx;simp only[M.run]at he
 by_cases hle:es.length≤lim
 ·simp only[hle,decide_true,cond_true,K0]at he;subst he;have hlim:lim=1099511627776:=rfl
  have hmin:IntKind.i64.min= -9223372036854775808:=by decide
  have hmax:IntKind.i64.max=9223372036854775807:=by decide
  refine J6 (v:= .int .i64 (es.length:Int)) ?_ (Jv hI ⟨by omega,by omega⟩);obtain⟨bs,hb⟩:=Jt (P:=P) (w:=w) o ρ _ _ _ ho;rw[hb];simp[builtin,Builtin.len_,run_underlying hM.map,hxv,h1,J32 h2,goInt,h4]
 ·simp[hle,M.run]at he
theorem Jd5{T K E:Nat}{k v:Ty}(hf:Fit P H)(hM:MFit P H T K E k v){b:Nat}{arr:Array MapEntry}{clk:Nat}{es:List (Den (.pair k v))}(h2:w.heap[b]? =some (.map arr clk))(hE:Ents k v arr.toList es)(x:Den k)(ok:Bool):
  (Instr.lookup T (.map (some b)) (keyV k x) ok).run P w= .ok (if ok=true then .tuple #[keyV v ((Jj k v es x).getD (dflt v)),.bool (Jj k v es x).isSome]else keyV v ((Jj k v es x).getD (dflt v))) w:=by
 have hf1:=Jch (w:=w) hM x arr.toList es hE;rw[J5a hM.isKey x arr.toList es hE.1.symm]at hf1;obtain⟨z,hz1,hz2⟩:=Jcj (w:=w) (hf.ty E v hM.val)
 have hz3:z=keyV v (dflt v):=by
  obtain⟨i,z',q1,_,_,q2,q3,_,q4⟩:=(hf.ty E v hM.val).info
  have hagv:isAgg v=false:=by rw[hM.isv];rfl
  obtain⟨y,r1,r2⟩:=q4 hagv
  have:z=z':=by
   simp[zeroValue,typeInfo,q1,q2]at hz1;exact hz1.symm
  subst this;rw[q3]at r1;have hvv:=hM.isv;subst hvv;simp only[Jf,K10,and_true]at r1;rw[r2,←r1];rfl
 unfold Instr.lookup
 cases hfi:J1o k v es x with
 |none=>
  have hg:Jj k v es x=none:=by rw[Jj,hfi]
  rw[hfi,Option.map_none]at hf1;simp[run_underlying hM.map,J32 h2,J6r hM,hf1,hz1,hg,hz3]
 |some j=>
  obtain⟨hj,_⟩:=J3n hfi
  have hg:Jj k v es x=some (es.getD j (dflt (.pair k v))).2 :=by rw[Jj,hfi]
  have hjl:j<arr.toList.length:=by rw[hE.1];exact hj
  have hval:((arr.toList[j]?).map (·.val)).getD .nilFunc =keyV v (es.getD j (dflt (.pair k v))).2 :=by
   obtain⟨_,p⟩:=hE.2 j arr.toList[j] es[j] (Ka hjl) (Ka hj);rw[Ka hjl,K1,Ka hj];exact p
  rw[hfi,Option.map_some,hval]at hf1;simp[run_underlying hM.map,J32 h2,J6r hM,hf1,hg]
theorem Jgy{k v:Ty}(hv':v= .int .i64){arr:Array MapEntry}{es:List (Den (.pair k v))}(h4:arr.size=es.length)(h5:∀(i:Nat) (m:MapEntry) (e:Den (.pair k v)),arr[i]? =some m→es[i]? =some e→MEnt w S k v m e)(x:Den k):Rep w S false v ((Jj k v es x).getD (dflt v)) [keyV v ((Jj k v es x).getD (dflt v))]:=by
 cases hfi:J1o k v es x with
 |none=>
  have hg:Jj k v es x=none:=by rw[Jj,hfi]
  rw[hg];subst hv';simp only[Option.getD_none,Rep,keyV,dflt];exact⟨trivial,by decide,by decide⟩
 |some j=>
  obtain⟨hj,_⟩:=J3n hfi
  have hg:Jj k v es x=some (es.getD j (dflt (.pair k v))).2 :=by rw[Jj,hfi]
  obtain⟨_,ds,p3,p4⟩:=h5 j arr[j] es[j] (K1i (by omega)) (Ka hj);rw[hg,Option.getD_some,K1,Ka hj];simp only[Option.getD_some];subst hv';simp only[Rep]at p4⊢;exact⟨rfl,p4.2⟩
theorem J9i(hf:Fit P H)(hI:Inv w S hv F g)(hl:∀c r,gl c=some r→g c=some r)(o:Oper)(ρ:Operand→Value)(T:Nat)(m x:Operand)(ok:Bool)(ho:o.op= .lookup T m x ok){a z:SV}(hm:VR w S hv g a (ρ m))(hx:VR w S hv g z (ρ x)){e:Eff}(he:(Jb4 H gl T ok a z).run =some e):
  Res P ((execOp ρ o).run P w) (Out w S hv F g e):=by
 unfold Jb4 at he;split at he
 rotate_left
 ·simp[M.run]at he
 rename_i k v ht;obtain⟨K,E,hM⟩:=J86 hf ht;split at he
 rotate_left
 ·simp[M.run]at he
 rename_i c es key ha hk;obtain⟨rfl,hg,hxv,b,arr,clk,h1,h2,h3,h4,_,h5⟩:=Jel hI hl ha hm;have hz:=J4r hk;subst hz;obtain⟨hkv,_⟩:=J8n hM.isKey hx;have hvk:J39 v:= .inl hM.isv;have hE:=Jdg hM.isKey hvk h4 h5;have hrun:=Jd5 (w:=w) hf hM h2 hE key ok;have hin:=Jgy (w:=w) (S:=S) hM.isv h4 h5 key
 have hVR:VR w S hv g (.v v ((Jj k v es key).getD (dflt v))) (keyV v ((Jj k v es key).getD (dflt v))):=by
  rw[VR_v (by rw[hM.isv];rfl)];exact hin
 cases ok with
 |true=>
  simp only[M.run,K0]at he;subst he;refine J6 (v:= .tuple #[keyV v ((Jj k v es key).getD (dflt v)),.bool (Jj k v es key).isSome]) ?_ (Out.same hI ?_)
  ·unfold execOp;simp only[if_true]at hrun;simp[ho,hxv,h1,hkv,hrun]
  ·refine⟨[keyV v ((Jj k v es key).getD (dflt v)),.bool (Jj k v es key).isSome],rfl,?_⟩;simp only[CRep];refine⟨_,_,rfl,hVR,?_⟩;exact⟨_,_,rfl,(J3b (w:=w) (S:=S) (hv:=hv) (g:=g)).2 rfl,rfl⟩
 |false=>
  simp only[M.run,K0]at he;subst he;refine J6 (v:=keyV v ((Jj k v es key).getD (dflt v))) ?_ (Out.same hI hVR);unfold execOp;simp only[K20,if_false]at hrun;simp[ho,hxv,h1,hkv,hrun]
theorem J9w{k:Ty}(hk:J39 k)(x:Den k):Instr.sameBits 10000 (keyV k x) (keyV k x)=true:=by
 rcases hk with rfl|rfl
 ·simp[keyV,Instr.sameBits]
 ·simp[keyV,Instr.sameBits]
theorem Ja3(hf:Fit P H)(hI:Inv w S hv F g)(hl:∀c r,gl c=some r→g c=some r)(o:Oper)(ρ:Operand→Value)(T:Nat)(m x y:Operand)(ho:o.op= .mapUpdate T m x y){a z u:SV}(hm:VR w S hv g a (ρ m))(hx:VR w S hv g z (ρ x))(hy:VR w S hv g u (ρ y)){e:Eff}(he:(Jbe H gl T a z u).run =some e):
  Res P ((execOp ρ o).run P w) (Out w S hv F g e):=by
 unfold Jbe at he;split at he
 rotate_left
 ·simp[M.run]at he
 rename_i k v ht;obtain⟨K,E,hM⟩:=J86 hf ht;split at he
 rotate_left
 ·simp[M.run]at he
 rename_i c es key val ha hk hu;simp only[M.run,K0]at he;subst he;obtain⟨rfl,hg,hxv,b,arr,clk,h1,h2,h3,h4,hfl,h5⟩:=Jel hI hl ha hm;have hz:=J4r hk;subst hz;have hu':=J4r hu;subst hu';obtain⟨hkv,kc,kp1,kp2⟩:=J8n hM.isKey hx;have hvk:J39 v:= .inl hM.isv;obtain⟨hvv,vc,vp1,vp2⟩:=J8n hvk hy;have hE:=Jdg hM.isKey hvk h4 h5;have hf1:=Jch (w:=w) hM key arr.toList es hE;rw[J5a hM.isKey key arr.toList es hE.1.symm]at hf1;have hblt:b<w.heap.size:=(K1v.1 h2).1
 have ment:∀(w':World) (born:Nat),J52 S w w'→MEnt w' S k v {key:=keyV k key,val:=keyV v val,born:=born} (key,val):=fun w' born hkeep=>
  ⟨⟨kc,by rw[←hkv];exact kp1,J9 hkeep (fun _ h=>h) _ _ _ _ kp2⟩,vc,by rw[←hvv];exact vp1,J9 hkeep (fun _ h=>h) _ _ _ _ vp2⟩
 have mold:∀(w':World),J52 S w w'→∀(i:Nat) (m:MapEntry) (e:Den (.pair k v)),arr[i]? =some m→es[i]? =some e→MEnt w' S k v m e:=fun w' hkeep i m e h6 h7=>by
  obtain⟨⟨cs,p1,p2⟩,ds,p3,p4⟩:=h5 i m e h6 h7;exact⟨⟨cs,p1,J9 hkeep (fun _ h=>h) _ _ _ _ p2⟩,ds,p3,J9 hkeep (fun _ h=>h) _ _ _ _ p4⟩
 have fin:∀(arr':Array MapEntry) (clk':Nat),arr'.size=(J2a k v es key val).length →(∀w',J52 S w w'→∀(i:Nat) (m:MapEntry) (e:Den (.pair k v)),arr'[i]? =some m→(J2a k v es key val)[i]? =some e→MEnt w' S k v m e)→
   Out w S hv F g ⟨.unit,[(c,.map k v (J2a k v es key val))]⟩ (.tuple #[]) {w with heap:=w.heap.setIfInBounds b (.map arr' clk')}:=fun arr' clk' hn hent=>
  (Jc7 (b:=b) (hd:=hv c) (arr:=arr') (clk:=clk') (w':={w with heap:=w.heap.setIfInBounds b (.map arr' clk')}) hI hfl h1 (fun _=>rfl) (fun n _ hn=>by simp[Rg.len]at hn) (.inr h3) (by simp) (by simpa using hblt) (Jc3 h2).1 (fun b' _ hne=>(Jc3 h2).2 b' hne) hn (hent _) ⟨rfl,rfl,rfl⟩).1
 have hrun0:(execOp ρ o).run P w=((Instr.mapUpdate T (.map (some b)) (keyV k key) (keyV v val)).run P w).andThen fun _ w'=> .ok .skip w':=by
  unfold execOp;simp[ho,hxv,h1,hkv,hvv]
 have hupd:(Instr.mapUpdate T (.map (some b)) (keyV k key) (keyV v val)).run P w= .ok () {w with heap:=w.heap.setIfInBounds b (match J1o k v es key with
   |some j=> .map (arr.modify j fun e=>{e with key:=keyV k key,val:=keyV v val}) clk
   |none=> .map (arr.push {key:=keyV k key,val:=keyV v val,born:=clk}) (clk+1))}:=by
  unfold Instr.mapUpdate;simp only[Sem.run_bind,run_underlying hM.map,Result.andThen_ok,J32 h2,J6r hM,hf1]
  cases hfi:J1o k v es key with
  |none=>simp only[Option.map_none,J6u _ h2]
  |some j=>
   have hkeep:(Instr.keyThatStays (((arr[j]?).map (·.key)).getD (keyV k key)) (keyV k key)).run P w= .ok (keyV k key) w:=by
    obtain⟨hj,hq⟩:=J3n hfi
    have hja:j<arr.size:=by omega
    have hke:(((arr[j]?).map (·.key)).getD (keyV k key))=keyV k key:=by
     obtain⟨p,_⟩:=hE.2 j arr[j] es[j] (by simp[hja]) (Ka hj);have hb:=hq es[j] (Ka hj);rw[Je4 hM.isKey]at hb;have hkk:=Jgv hM.isKey hb;rw[K1i hja];simp only[Option.map_some,Option.getD_some];rw[p,←hkk]
    rw[hke];unfold Instr.keyThatStays;simp[J9w hM.isKey]
   simp only[Option.map_some,Sem.run_bind,hkeep,Result.andThen_ok,J6u _ h2]
 rw[hrun0,hupd];show Out w S hv F g _ _ _
 cases hfi:J1o k v es key with
 |none=>
  have hset:J2a k v es key val=es++[(key,val)]:=by rw[J2a,hfi]
  refine fin _ _ (by rw[hset];simp[h4]) fun w' hkeep i m e h6 h7=> ?_
  rw[hset]at h7;rw[Array.getElem?_push]at h6
  by_cases hi:i=arr.size
  ·subst hi;simp only[if_true,K0]at h6;rw[h4,List.getElem?_concat_length]at h7;cases h7;subst h6;exact ment w' clk hkeep
  ·rw[if_neg hi]at h6;have hlt:=(K1v.1 h6).1;rw[Ko (by omega)]at h7;exact mold w' hkeep i m e h6 h7
 |some j=>
  obtain⟨hj,_⟩:=J3n hfi
  have hset:J2a k v es key val=es.set j (key,val):=by rw[J2a,hfi]
  refine fin _ _ (by rw[hset];simp[h4]) fun w' hkeep i m e h6 h7=> ?_
  rw[hset]at h7;rw[Array.getElem?_modify]at h6
  by_cases hi:j=i
  ·subst hi;rw[if_pos rfl]at h6;rw[List.getElem?_set_self hj]at h7;cases h7;obtain⟨m0,_,rfl⟩:=Kp.1 h6;exact ment w' m0.born hkeep
  ·rw[if_neg hi]at h6;rw[List.getElem?_set_ne hi]at h7;exact mold w' hkeep i m e h6 h7
end
end Go.Rf
namespace Go.Rf
section
variable {P:Program} {H:Hints} {w w':World} {S:Nat→Prop} {hv:Nat→Value} {F:Nat→Nat→Prop} {g gl gm:Look}
theorem J4w{a:SV}{n:Int}(h:J8m a=some n):∃k,a= .v (.int k) n:=by
 cases a<;>simp[J8m]at h;rename_i t x;cases t<;>simp[J8m]at h;subst h;exact⟨_,rfl⟩
theorem J82{a:SV}{v:Value}{n:Int}(h:J8m a=some n)(hx:VR w S hv g a v):BVal (some v) (some n):=by
 obtain⟨k,rfl⟩:=J4w h;rw[J1j]at hx;exact⟨k,hx.1⟩
theorem Ja8{α β:Type}{R:α→β→Prop}{as:List α}{bs:List β}(h:All2 R as bs):as.length=bs.length:=by
 induction h with
 |nil=>rfl
 |cons _ _ ih=>simp[ih]
theorem Jcr(hf:Fit P H)(hI:Inv w S hv F g)(hl:∀c r,gl c=some r→g c=some r)(o:Oper)(ρ:Operand→Value)(h:FnH)(p:Fns H){d:Nat}(hd:gl d=none→g d=none){args:List SV}
  (ha:All2 (fun a v=>VR w S hv g a v) args (o.op.operands.toList.map ρ)){e:Eff}(he:(eff1 H h p o.op o.type d gl args).run =some e)(hnc:∀c,o.op≠ .call c):
  Res P ((execOp ρ o).run P w) (Out w S hv F g e):=by
 have hfail:∀{e:Eff},(M.fail:M Eff).run =some e→False:=fun h=>by simp[M.run]at h
 cases ho:o.op with
 |move x=>
  rw[ho]at ha he
  cases ha with
  |cons h1 h2=>
   cases h2;simp only[eff1,M.run,K0]at he;subst he;exact J7n hI o ρ x (.inl ho) h1
 |assign x=>
  rw[ho]at ha he
  cases ha with
  |cons h1 h2=>
   cases h2;simp only[eff1,M.run,K0]at he;subst he;exact J7n hI o ρ x (.inr ho) h1
 |pick c x y=>
  rw[ho]at ha he
  cases ha with
  |cons h1 h2=>
   cases h2 with
   |cons h2 h3=>
    cases h3 with
    |cons h3 h4=>
     cases h4;rename_i a1 a2 a3;simp only[eff1]at he;split at he
     ·rename_i b;simp only[M.run]at he;have:=Jd3 (P:=P) (H:=H) hI o ρ c x y ho h1 h2 h3;cases b<;>simp only[cond_true,cond_false,K0]at he<;>subst he<;>exact this
     ·exact(hfail he).elim
 |alloc E=>
  rw[ho]at ha he;cases ha;simp only[eff1]at he;split at he
  ·rename_i t ht;obtain⟨h1,he⟩:=J1q he;simp only[M.run,K0]at he;subst he;exact Jad hf hI o ρ E ho ht (hd h1)
  ·exact(hfail he).elim
 |box E x=>
  rw[ho]at ha he
  cases ha with
  |cons h1 h2=>
   cases h2;simp only[eff1]at he;split at he
   ·rename_i n m hn hm;split at he
    ·obtain⟨h3,he⟩:=J1q he;simp only[M.run,K0]at he;subst he;exact Je0 hI o ρ E x ho hm (J4j h1) (hd h3)
    ·exact(hfail he).elim
   ·exact(hfail he).elim
 |build E ps=>
  rw[ho]at ha he;simp only[Op.operands,List.map_map]at ha;simp only[eff1]at he;split at he
  ·rename_i t ht;split at he
   ·rename_i b hb;split at he
    ·rename_i hag;simp only[K7,decide_eq_true_eq]at hag;simp only[M.run,K0]at he;subst he;have hft:=hf.ty E t ht;have hu:=hft.under
     have hus:SFit P H E t∨AFit P H E t:=by
      unfold UFit at hu;cases t<;>simp[isAgg]at hag<;>exact hu
     have hlen:args.length=ps.toList.length:=by
      have:=Ja8 ha;simpa using this
     rcases hus with hus|hus
     ·obtain⟨hnz,fs,h1,h2,h3,h4⟩:=hus;obtain⟨n,hn⟩:∃n,H.nf E=n+1:=⟨H.nf E-1,by omega⟩
      have hb':J18 t (H.nf E) (J6l ps.toList args) (.v t (dflt t))=some b:=by rw[hn]at hb⊢;exact hb
      have h0:∃r0,Je t (H.nf E) 0=some r0:=by
       obtain⟨q,u,h5,_⟩:=h4 0 (fs[0]'(by omega)) (by simp);exact⟨_,h5⟩
      obtain⟨r0,h0⟩:=h0;exact Jal hf hI o ρ E ps ho ht hag.1 (as:=args) hlen ha hb' hag.2 h0
     ·have hb':J18 t 2 (J6l ps.toList args) (.v t (dflt t))=some b:=by rw[hus.1]at hb;exact hb
      exact Je1 hf hI o ρ E ps ho ht hus (as:=args) hlen ha hb' hag.2
    ·exact(hfail he).elim
   ·exact(hfail he).elim
  ·exact(hfail he).elim
 |buildSlice E n ps=>
  rw[ho]at ha he;simp only[Op.operands,List.map_map]at ha;simp only[eff1]at he;split at he
  ·rename_i t ht;split at he
   ·rename_i l hl2;split at he
    ·rename_i hn;simp only[K7,decide_eq_true_eq,beq_iff_eq]at hn;have hfr:=J1q he;exact J5h hf hI hl o ρ E n ps ho ht hl2 hn.1 hn.2 ha (hd hfr.1) he
    ·exact(hfail he).elim
   ·exact(hfail he).elim
  ·exact(hfail he).elim
 |load E x=>
  rw[ho]at ha he
  cases ha with
  |cons h1 h2=>
   cases h2;simp only[eff1]at he;split at he
   ·rename_i ag hag;exact Jcy hf hI hl o ρ E x ho hag hd h1 he
   ·exact(hfail he).elim
 |store E x y=>
  rw[ho]at ha he
  cases ha with
  |cons h1 h2=>
   cases h2 with
   |cons h2 h3=>
    cases h3;simp only[eff1]at he;split at he
    ·rename_i ag hag;exact Jb8 hf hI hl o ρ E x y ho hag h1 (J4j h2) he
    ·exact(hfail he).elim
 |nilCheck x=>
  rw[ho]at ha he
  cases ha with
  |cons h1 h2=>
   cases h2;simp only[eff1]at he;split at he
   all_goals try exact(hfail he).elim
   all_goals
    simp only[M.run,K0]at he;subst he;exact J77 hI o ρ x ho h1 (by simp)
 |binOp op T x y U=>
  rw[ho]at ha he
  cases ha with
  |cons h1 h2=>
   cases h2 with
   |cons h2 h3=>
    cases h3;simp only[eff1]at he;exact Jdz hf hI hl o ρ op T U x y ho h1 h2 he
 |unOp op T x=>
  rw[ho]at ha he
  cases ha with
  |cons h1 h2=>
   cases h2;simp only[eff1]at he;exact Jfq hI o ρ op T x ho h1 he
 |convert U E x=>
  rw[ho]at ha he
  cases ha with
  |cons h1 h2=>
   cases h2;simp only[eff1]at he;split at he
   ·rename_i k n k' t hE hU;simp only[M.run,K0]at he;subst he;exact J8h hf hI o ρ U E x ho h1 (by rw[hU];simp) hE
   ·exact(hfail he).elim
 |makeFunc fn first caps=>
  rw[ho]at ha he;simp only[eff1]at he;split at he
  ·rename_i f hfst;simp only[M.run,K0]at he;subst he
   have:first= #[]:=by apply Array.ext';simpa using hfst
   subst this;exact J76 hI o ρ f caps ho (by simpa[Op.operands]using ha)
  ·exact(hfail he).elim
 |makeSlice E l c=>
  rw[ho]at ha he
  cases ha with
  |cons h1 h2=>
   cases h2 with
   |cons h2 h3=>
    cases h3;simp only[eff1]at he;split at he
    ·rename_i t n m hE;simp only[M.run]at he;cases e1:decide (0≤(n:Int))<;>simp only[e1,cond_true,cond_false,reduceCtorEq]at he;cases e2:decide ((n:Int)≤(lim:Int))<;>simp only[e2,cond_true,cond_false,reduceCtorEq]at he;cases e3:decide ((n:Int)≤(m:Int))<;>simp only[e3,cond_true,cond_false,reduceCtorEq]at he;cases e4:decide ((m:Int)≤(lim:Int))<;>simp only[e4,cond_true,cond_false,reduceCtorEq]at he;obtain⟨h5,he⟩:=J1q he;simp only[M.run,K0]at he;subst he;exact J6h hf hI o ρ E l c ho hE h1 h2 (of_decide_eq_true e1) (of_decide_eq_true e3) (of_decide_eq_true e4) (hd h5)
    ·exact(hfail he).elim
 |slice T x lo hi mx=>
  rw[ho]at ha he;simp only[eff1]at he;split at he
  ·rename_i u hT;simp only[Op.operands]at ha;split at he
   ·rename_i a
    cases ha with
    |cons h1 h2=>exact J35 hf hI hl o ρ T x none none ho hT h1 (lx:=none) (hx':=none) trivial trivial he
   ·rename_i l a b
    cases ha with
    |cons h1 h2=>
     cases h2 with
     |cons h2 h3=>
      split at he
      ·rename_i n hn;exact J35 hf hI hl o ρ T x (some l) none ho hT h1 (lx:=some n) (hx':=none) (J82 hn h2) trivial he
      ·exact(hfail he).elim
   ·rename_i r a b
    cases ha with
    |cons h1 h2=>
     cases h2 with
     |cons h2 h3=>
      split at he
      ·rename_i n hn;exact J35 hf hI hl o ρ T x none (some r) ho hT h1 (lx:=none) (hx':=some n) trivial (J82 hn h2) he
      ·exact(hfail he).elim
   ·rename_i l r a b c
    cases ha with
    |cons h1 h2=>
     cases h2 with
     |cons h2 h3=>
      cases h3 with
      |cons h3 h4=>
       split at he
       ·rename_i n m hn hm;exact J35 hf hI hl o ρ T x (some l) (some r) ho hT h1 (J82 hn h2) (J82 hm h3) he
       ·exact(hfail he).elim
   ·exact(hfail he).elim
  ·exact(hfail he).elim
 |fieldAddr E x i=>
  rw[ho]at ha he
  cases ha with
  |cons h1 h2=>
   cases h2;simp only[eff1]at he;split at he
   ·rename_i t ht;split at he
    ·rename_i q u hq;split at he
     ·simp only[M.run,K0]at he;subst he;exact J8j hf hI o ρ E i x ho ht hq h1
     ·rename_i v y;split at he
      ·rename_i y' hc;split at he
       ·rename_i e' hg;simp only[M.run,K0]at he;subst he;have:=J2n hc;simp only[K24]at this;obtain⟨rfl,hh⟩:=this;have:=eq_of_heq hh;subst this;exact J9e hf hI o ρ E i x ho ht hq h1 hg
       ·exact(hfail he).elim
      ·exact(hfail he).elim
     ·exact(hfail he).elim
    ·exact(hfail he).elim
   ·exact(hfail he).elim
 |field E x i=>
  rw[ho]at ha he
  cases ha with
  |cons h1 h2=>
   cases h2;simp only[eff1]at he;split at he
   ·rename_i t ht;split at he
    ·rename_i q u hq;split at he
     ·rename_i b hb;split at he
      ·rename_i hg;simp only[M.run,K0]at he;subst he;exact Jau hf hI o ρ E i x ho ht hq h1 hb (of_decide_eq_true hg)
      ·exact(hfail he).elim
     ·exact(hfail he).elim
    ·exact(hfail he).elim
   ·exact(hfail he).elim
 |indexAddr T x i=>
  rw[ho]at ha he
  cases ha with
  |cons h1 h2=>
   cases h2 with
   |cons h2 h3=>
    cases h3;simp only[eff1]at he;split at he
    ·rename_i u n hT hn;obtain⟨k,rfl⟩:=J4w hn;exact Jb1 hf hI hl o ρ T x i ho hT h1 h2 he
    ·rename_i n hT hn;obtain⟨k,rfl⟩:=J4w hn;split at he
     ·rename_i c r h0;have hA:=Jdd hf hT h0;simp only[M.run]at he
      by_cases e0:n=0
      ·subst e0;simp only[beq_self_eq_true,cond_true,K0]at he;subst he;exact J3q hf hI o ρ T x i ho hA h1 h2 (.inl ⟨rfl,rfl⟩)
      ·have b0:(n==0)=false:=by rw[beq_eq_false_iff_ne];exact e0
       by_cases e1:n=1
       ·subst e1;simp[M.run]at he;subst he;exact J3q hf hI o ρ T x i ho hA h1 h2 (.inr ⟨rfl,rfl⟩)
       ·have b1:(n==1)=false:=by rw[beq_eq_false_iff_ne];exact e1
        simp[b0,b1,M.run]at he
     ·exact(hfail he).elim
    ·exact(hfail he).elim
 |extract x i=>
  rw[ho]at ha he
  cases ha with
  |cons h1 h2=>
   cases h2;simp only[eff1]at he;split at he
   ·rename_i b c hd';have:=J8i (P:=P) hI o ρ i x ho h1 hd';split at he
    ·rename_i z hz;simp only[M.run,K0]at he;subst he;simpa[hz]using this
    ·rename_i hz;simp only[M.run,K0]at he;subst he;simpa[hz]using this
   ·exact(hfail he).elim
 |makeMap T r=>
  rw[ho]at ha he
  cases r with
  |some r=>simp[eff1,M.run]at he
  |none=>
   cases ha;simp only[eff1]at he;split at he
   ·rename_i k v hm;obtain⟨h1,h2⟩:=J1q he;simp only[M.run,K0]at h2;subst h2;exact J8o hf hI o ρ T ho hm (hd h1)
   ·exact(hfail he).elim
 |lookup T m x ok=>
  rw[ho]at ha he
  cases ha with
  |cons h1 h2=>
   cases h2 with
   |cons h2 h3=>
    cases h3;simp only[eff1]at he;exact J9i hf hI hl o ρ T m x ok ho h1 h2 he
 |mapUpdate T m x y=>
  rw[ho]at ha he
  cases ha with
  |cons h1 h2=>
   cases h2 with
   |cons h2 h3=>
    cases h3 with
    |cons h3 h4=>
     cases h4;simp only[eff1]at he;exact Ja3 hf hI hl o ρ T m x y ho h1 h2 h3 he
 |call c=>exact absurd ho (hnc c)
 |_=>rw[ho]at he;simp[eff1,M.run]at he
end
end Go.Rf
namespace Go.Rf
section
variable {P:Program} {H:Hints} {w w':World} {S:Nat→Prop} {hv:Nat→Value} {F:Nat→Nat→Prop} {g gl gm:Look}
theorem J24{α:Type}{a:Array α}{x:α}(h:a.toList=[x]):a= #[x]:=by apply Array.ext';simpa using h
theorem J25{α:Type}{a:Array α}{x y:α}(h:a.toList=[x,y]):a= #[x,y]:=by apply Array.ext';simpa using h
theorem J81{α β γ:Type}{R:α→β→Prop}{f:γ→β}{a:α}{l:List γ}(h:All2 R [a] (l.map f)):∃x,l=[x]∧R a (f x):=by
 match l,h with
 |[x],.cons h1 .nil =>exact⟨x,rfl,h1⟩
theorem Jbj{α β γ:Type}{R:α→β→Prop}{f:γ→β}{a b:α}{l:List γ}(h:All2 R [a,b] (l.map f)):∃x y,l=[x,y]∧R a (f x)∧R b (f y):=by
 match l,h with
 |[x,y],.cons h1 (.cons h2 .nil)=>exact⟨x,y,rfl,h1,h2⟩
theorem J8g(hf:Fit P H)(hI:Inv w S hv F g)(hl:∀c r,gl c=some r→g c=some r)(o:Oper)(ρ:Operand→Value)(b:Builtin)(xs:Array Operand)(ts:Array TypeId)(ho:o.op= .call {callee:= .builtin b,args:=xs,argTypes:=ts}){d:Nat}(hd:gl d=none→g d=none){args:List SV}
  (ha:All2 (fun a v=>VR w S hv g a v) args (xs.toList.map ρ)){frz:Bool}{e:Eff}(he:(J8f H b ts.toList gl d frz args).run =some e):Res P ((execOp ρ o).run P w) (Out w S hv F g e):=by
 have hfail:∀{e:Eff},(M.fail:M Eff).run =some e→False:=fun h=>by simp[M.run]at h
 unfold J8f at he;split at he
 ·
  obtain⟨x,hx,h1⟩:=J81 ha;split at he
  ·rename_i T hT;rw[J24 hx,J24 hT]at ho;split at he
   ·rename_i t ht;split at he
    ·rename_i n hn;simp only[M.run,K0]at he;subst he;exact Jeg hf hI hl o ρ T x ho ht h1 hn
    ·exact(hfail he).elim
   ·exact J9j hf hI hl o ρ T x ho h1 he
   ·exact(hfail he).elim
  ·exact(hfail he).elim
 ·
  obtain⟨x,hx,h1⟩:=J81 ha;split at he
  ·rename_i T hT;rw[J24 hx,J24 hT]at ho;split at he
   ·rename_i t ht;simp only[M.run,K0]at he;subst he;exact J98 hf hI o ρ T x ho ht h1 (.inl rfl)
   ·rename_i t u y ht;simp only[M.run]at he
    cases hy:y.1 with
    |false=>simp[hy]at he
    |true=>
     simp only[hy,cond_true,K0]at he;subst he;exact J98 hf hI o ρ T x ho ht h1 (.inr ⟨u,y,rfl,hy⟩)
   ·exact(hfail he).elim
  ·exact(hfail he).elim
 ·
  rename_i a b;obtain⟨x,y,hx,h1,h2⟩:=Jbj ha;split at he
  ·rename_i T U hT;rw[J25 hx,J25 hT]at ho;split at he
   ·rename_i t k hTt hU;split at he
    ·exact J54 hf hI hl o ρ T U x y ho hTt (.inl ⟨_,_,_,hU,rfl⟩) h1 h2 hd he
    ·exact(hfail he).elim
   ·rename_i t u hTt hU;split at he
    ·exact(hfail he).elim
    ·rename_i hne htu
     have htu:T=U:=by simpa using htu
     exact J54 hf hI hl o ρ T U x y ho hTt (.inr ⟨htu.symm,fun k n h=>hne k n h⟩) h1 h2 hd he
    ·exact(hfail he).elim
   ·exact(hfail he).elim
  ·exact(hfail he).elim
 ·
  rename_i k x r;split at he
  ·rename_i a hm;simp only[M.run,K0]at he;subst he
   match hxs:xs.toList,ha with
   |y::ys,.cons h1 h2=>
    rw[J1j]at h1;obtain⟨m,e1,e2,e3⟩:=J2d (P:=P) r _ x a hm h2 h1.2;subst e1;simp only[if_true]at e3;obtain⟨cs,hb⟩:=Jt (P:=P) (w:=w) o ρ _ _ _ ho;refine J6 (v:= .int k m) ?_ (Jv hI e2);rw[hb]
    have hm2:(Builtin.max_ ts o.type (xs.map ρ)).run P w= .ok (.int k m) w:=by
     unfold Builtin.max_
     have:(xs.map ρ).toList =ρ y::ys.map ρ:=by rw[Array.toList_map,hxs];rfl
     rw[this];simp only;rw[h1.1];exact e3
    simp[builtin,hm2]
  ·exact(hfail he).elim
 ·
  rename_i k x r;split at he
  ·rename_i a hm;simp only[M.run,K0]at he;subst he
   match hxs:xs.toList,ha with
   |y::ys,.cons h1 h2=>
    rw[J1j]at h1;obtain⟨m,e1,e2,e3⟩:=J2d (P:=P) r _ x a hm h2 h1.2;subst e1;simp only[K20,if_false]at e3;obtain⟨cs,hb⟩:=Jt (P:=P) (w:=w) o ρ _ _ _ ho;refine J6 (v:= .int k m) ?_ (Jv hI e2);rw[hb]
    have hm2:(Builtin.min_ ts o.type (xs.map ρ)).run P w= .ok (.int k m) w:=by
     unfold Builtin.min_
     have:(xs.map ρ).toList =ρ y::ys.map ρ:=by rw[Array.toList_map,hxs];rfl
     rw[this];simp only;rw[h1.1];exact e3
    simp[builtin,hm2]
  ·exact(hfail he).elim
 ·
  obtain⟨x,hx,h1⟩:=J81 ha;split at he
  ·rename_i c sz lo hi T hT;rw[J24 hx,J24 hT]at ho;split at he
   ·rename_i t dp n ys u hc hTt;split at he
    ·rename_i hch;simp only[K7,decide_eq_true_eq,beq_iff_eq]at hch;obtain⟨⟨rfl,rfl⟩,hft⟩:=hch;simp only[M.run,K0]at he;subst he;exact Jao hf hI o ρ T x ho hTt (hl _ _ hc) hft h1
    ·exact(hfail he).elim
   ·exact(hfail he).elim
  ·exact(hfail he).elim
 ·
  rename_i a b;obtain⟨x,y,hx,h1,h2⟩:=Jbj ha
  have hsrc:∀(e1:D) (l:List Nat) (t:Ty) (z:Den (.sl t)),view gl b=some (e1,l)→e1.to (.sl t)=some z→Rep w (fun b'=>S b'∨FL F l b') false (.sl t) z [ρ y]:=by
   intro e1 l t z hv hz;have:=D_to hz;subst this;rw[J8 (Jf4 hv)]at h2;exact J2t hI hl b _ l _ hv (fun _ h=> .inl h) (fun _ h=> .inr h) h2
  split at he
  ·rename_i c sz lo hi e1 l T U hview hT;rw[J25 hx,J25 hT]at ho;split at he
   ·rename_i t dp n ys u hc hTt;split at he
    ·rename_i z hz hch;simp only[K7,decide_eq_true_eq,beq_iff_eq]at hch;obtain⟨⟨rfl,rfl⟩,hft⟩:=hch;simp only[M.run,K0]at he;subst he;rw[J8 rfl]at h1;simp only[CRep,K10,and_true]at h1;obtain⟨_,v',rfl,hs⟩:=h1;exact J9b hf hI o ρ T U x y ho hTt (hl _ _ hc) hft hs (hsrc _ _ _ _ hview hz)
    ·exact(hfail he).elim
   ·exact(hfail he).elim
  ·rename_i c e1 l T U hview hT;rw[J25 hx,J25 hT]at ho;split at he
   ·rename_i t dp n ys u hc hTt;split at he
    ·rename_i z hz hch;simp only[K7,decide_eq_true_eq]at hch;obtain⟨rfl,hft⟩:=hch;simp only[M.run,K0]at he;subst he;have hr:=hI.rep c _ (hl _ _ hc);simp only[GRep]at hr;have hs:=Jcn hr;rw[←J2i h1]at hs;have:=J9b hf hI o ρ T U x y ho hTt (hl _ _ hc) hft (by rw[←J2i h1];exact hs) (hsrc _ _ _ _ hview hz);simpa using this
    ·exact(hfail he).elim
   ·exact(hfail he).elim
  ·exact(hfail he).elim
 ·exact(hfail he).elim
theorem Jfe(x y c:Int)(h1:x≤18446744073709551615)(h2:y≤18446744073709551615)(h3:c≤1):(x+y+c) / 18446744073709551616≤18446744073709551615:=by omega
theorem Je6(hf:Fit P H)(hI:Inv w S hv F g){f:Nat}{ef:ExtF}(hx:H.extF f=some ef){args:SV}{vs:List Value}(ha:CRep w S hv g true args vs){e:Eff}(he:(extE ef args).run =some e):
  Res P ((callFunc f vs.toArray).run P w) (Out w S hv F g e):=by
 unfold extE at he;split at he
 ·rename_i x y c;simp only[M.run]at he
  cases hc:decide ((c:Int)≤1)with
  |false=>simp[hc]at he
  |true=>
   simp only[hc,cond_true,K0]at he;subst he;have hc:=of_decide_eq_true hc
   have hcell:∀{k:IntKind} {n:Int} {v:Value},V0 (CRep w S hv g false (.v (.int k) n)) (.v (.int k) n) v→v= .int k n∧k.min≤n∧n≤k.max:=by
    intro k n v h;exact J1j.1 h
   simp only[CRep]at ha;obtain⟨p1,r1,rfl,h1,p2,r2,rfl,h2,p3,r3,rfl,h3,rfl⟩:=ha;obtain⟨rfl,hx1,hx2⟩:=hcell h1;obtain⟨rfl,hy1,hy2⟩:=hcell h2;obtain⟨rfl,hc1,hc2⟩:=hcell h3;have e0:IntKind.u64.min=0:=rfl;have e1:IntKind.u64.max=18446744073709551615:=rfl;rw[e0]at hx1 hy1 hc1;rw[e1]at hx2 hy2 hc2;have hrun:=hf.add64 f hx x y c w hx1 hy1 hc1 hc;refine J6 hrun (Out.same hI ?_)
   have hz:∀n:Int,0≤n→n≤18446744073709551615→V0 (CRep w S hv g false (.v (.int .u64) n)) (.v (.int .u64) n) (.int .u64 n):=fun n h1 h2=>J1j.2 ⟨rfl,by rw[e0,e1];exact⟨h1,h2⟩⟩
   refine⟨[.int .u64 _,.int .u64 _],rfl,?_⟩;simp only[CRep];refine⟨_,_,rfl,hz _ ?_ ?_,_,_,rfl,hz _ ?_ ?_,rfl⟩
   ·exact Int.emod_nonneg _ (by decide)
   ·have:=Int.emod_lt_of_pos (x+y+c) (show(0:Int)<18446744073709551616 by decide);omega
   ·exact Int.ediv_nonneg (by omega) (by decide)
   ·exact Jfe x y c hx2 hy2 hc
 ·simp[M.run]at he
end
end Go.Rf
