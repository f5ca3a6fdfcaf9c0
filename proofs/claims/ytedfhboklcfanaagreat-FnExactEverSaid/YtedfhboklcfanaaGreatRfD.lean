/- An evaluator over the code of the given program,and its soundness:part 4. -/
import Derived.Test.YtedfhboklcfanaaGreatRfC
import Derived.WalkKit
import Derived.ProofKit
import Derived.OpenShut
import Derived.ShutString
import Derived.ChangeOld
import Derived.ChangeArms
import Derived.Below
import Derived.Carry
import Derived.SizedLaws
import Derived.Laws.Externs
import Derived.Laws.BitsLemmas
set_option linter.all false
namespace Go.Rf
open Go.ChangeShapes Go.WideShapes Go.ChangeAt Go.RowKit
def WfD:(t:Ty)→Den t→Prop
 | .int k,n=>k.min≤n∧n≤k.max
 | .bool,_=>True
 | .nil,_=>True
 | .one a,x=>WfD a x
 | .pair a b,x=>WfD a x.1∧WfD b x.2
 | .sl t,x=>(x.1=true→x.2=[])∧x.2.length≤big∧∀e∈x.2,WfD t e
 | .fn _ _,_=>True
 | .hsl _,_=>True
theorem Jg4{w:World}{S:Nat→Prop}:∀(t:Ty) (x:Den t) (cs:List Value),Rep w S false t x cs→WfD t x:=by
 intro t
 induction t with
 |int k=>intro x cs h;simp only[Rep]at h;exact h.2
 |bool=>intro x cs h;trivial
 |nil=>intro x cs h;trivial
 |one a ih=>intro x cs h;exact ih x cs h
 |pair a b iha ihb=>
  intro x cs h;simp only[Rep]at h;obtain⟨c,d,_,h1,h2⟩:=h;exact⟨iha _ _ h1,ihb _ _ h2⟩
 |sl t ih=>
  intro x cs h;simp only[Rep]at h;simp only[WfD]
  rcases h with⟨h1,h2,_⟩|⟨h1,b,o,cap,_,_,h2,h3⟩|⟨h1,h2,_⟩
  ·exact⟨fun _=>h2,by simp[h2],by simp[h2]⟩
  ·refine⟨fun h=>(by rw[h1]at h;cases h),h2,fun e he=> ?_⟩;obtain⟨i,hi⟩:=List.getElem?_of_mem he;obtain⟨_,c,_,_,hc⟩:=h3 i e hi;exact ih _ _ hc
  ·exact⟨fun _=>h2,by simp[h2],by simp[h2]⟩
 |fn f c ih=>intro x cs h;trivial
 |hsl t ih=>intro x cs h;trivial
theorem Jaw:∀(t:Ty) (n i:Nat) (q:List Step) (u:Ty),Je t n i=some (q,u)→Jw u<Jw t:=by
 intro t
 induction t with
 |one a ih=>
  intro n i q u h
  match n,i,h with
  |1,0,h=>
   simp[Je]at h;obtain⟨_,rfl⟩:=h;simp[Jw]
 |pair a b iha ihb=>
  intro n i q u h
  match n,i,h with
  |n+2,0,h=>
   simp[Je]at h;obtain⟨_,rfl⟩:=h;simp[Jw];omega
  |2,1,h=>
   simp[Je]at h;obtain⟨_,rfl⟩:=h;simp[Jw];omega
  |n+3,i+1,h=>
   simp only[Je,Kp,K6]at h;obtain⟨⟨q',u'⟩,h1,rfl,rfl⟩:=h;have:=ihb _ _ _ _ h1;simp only[Jw];omega
  |0,_,h=>simp[Je]at h
  |1,_,h=>simp[Je]at h
  |2,i+2,h=>simp[Je]at h
 |_=>intro n i q u h;simp[Je]at h
theorem Jcu{w:World}{S:Nat→Prop}:∀(t:Ty) (n:Nat) (cs:List Value),n≠0→isAgg t=true→(∀i,i<n→∃q u,Je t n i=some (q,u)∧∃y:Den u,Rep w S false u y ((cs.drop (J3 q)).take (size u)))→cs.length=size t→∃y:Den t,Rep w S false t y cs:=by
 intro t
 induction t with
 |one a ih=>
  intro n cs hn _ h hl;obtain⟨q,u,h1,y,h2⟩:=h 0 (by omega)
  match n,h1 with
  |1,h1=>
   simp[Je]at h1;obtain⟨rfl,rfl⟩:=h1;refine⟨y,?_⟩;simp only[Rep]
   have:(cs.drop (J3 [Step.one])).take (size a)=cs:=by
    simp only[size]at hl;simp[J3,Step.off,←hl]
   rw[this]at h2;exact h2
 |pair a b iha ihb=>
  intro n cs hn _ h hl;simp only[size]at hl;have h0:=h 0 (by omega);obtain⟨q,u,h1,y,h2⟩:=h0
  match n,h1 with
  |n+2,h1=>
   simp[Je]at h1;obtain⟨rfl,rfl⟩:=h1
   have e1:(cs.drop (J3 [Step.fst])).take (size a)=cs.take (size a):=by simp[J3,Step.off]
   rw[e1]at h2
   have hb:∃z:Den b,Rep w S false b z (cs.drop (size a)):=by
    cases n with
    |zero=>
     obtain⟨q,u,h3,z,h4⟩:=h 1 (by omega);simp[Je]at h3;obtain⟨rfl,rfl⟩:=h3;refine⟨z,?_⟩
     have:(cs.drop (J3 [Step.snd (size a)])).take (size b)=cs.drop (size a):=by
      rw[K1d]
      ·simp[J3,Step.off]
      ·simp[J3,Step.off];omega
     rw[this]at h4;exact h4
    |succ n=>
     have hag:isAgg b=true:=by
      obtain⟨q,u,h3,_⟩:=h 1 (by omega);simp only[Je,Kp,K6]at h3;obtain⟨⟨q',u'⟩,h4,_⟩:=h3;cases b<;>simp[Je]at h4<;>rfl
     refine ihb (n+2) (cs.drop (size a)) (by omega) hag (fun i hi=> ?_) (by simp;omega);obtain⟨q,u,h3,z,h4⟩:=h (i+1) (by omega);simp only[Je,Kp,K6]at h3;obtain⟨⟨q',u'⟩,h5,rfl,rfl⟩:=h3;refine⟨q',u',h5,z,?_⟩;simp only[J3,Step.off]at h4;rw[List.drop_drop];exact h4
   obtain⟨z,hz⟩:=hb;refine⟨(y,z),?_⟩;simp only[Rep];exact⟨_,_,(List.take_append_drop (size a) cs).symm,h2,hz⟩
 |nil=>
  intro n cs hn hag h hl;obtain⟨q,u,h1,_⟩:=h 0 (by omega);simp[Je]at h1
 |_=>intro n cs hn hag;simp[isAgg]at hag
theorem Jgd{α:Type}(n:Nat)(p:Nat→α→Prop)(h:∀i,i<n→∃y,p i y):∃ys:List α,ys.length=n∧∀i y,ys[i]? =some y→p i y:=by
 induction n with
 |zero=>exact⟨[],rfl,fun i y hy=>by simp at hy⟩
 |succ n ih=>
  obtain⟨ys,hl,hp⟩:=ih (fun i hi=>h i (by omega));obtain⟨y,hy⟩:=h n (by omega);refine⟨ys++[y],by simp[hl],fun i z hz=> ?_⟩
  rcases Nat.lt_or_ge i n with hi|hi
  ·rw[Ko (by omega)]at hz;exact hp i z hz
  ·have hi':i=n:=by
    have:=(Kb.1 hz).1;rw[Kf,K1c]at this;omega
   subst hi';rw[←hl,List.getElem?_concat_length]at hz;obtain rfl:=Option.some.inj hz;exact hy
section
variable {H':Type} {enc:TypeId×Value→H'} {P:Program} {H:Hints} {w:World}
theorem J4q{a:Addr}{n:Nat}{cs:List Value}(h:w.cells? 0 a n=some cs)(hn:0<n):a.spot=none∧a.block<w.heap.size:=by
 obtain⟨_,h1,h2⟩:=World.cells?_some h;have h3:=h2 0 hn;have h4:a.add 0=a:=rfl;rw[h4]at h3;have h5:∃v,w.cell? a=some v:=⟨cs[0]'(by omega),by rw[h3];simp⟩;obtain⟨v,h6⟩:=h5;refine⟨?_,World.block_lt_of_cell? w a h6⟩;unfold World.cell? at h6;split at h6
 ·split at h6
  ·cases h6
  ·rename_i hh;simpa using hh
 ·cases h6
theorem Jba{T E:TypeId}{fuel:Nat}{cs:List Value}{x:DataW H'×List MemPlace}(ht:P.underlying T=some (.array 2 E))(hc:P.cellsOf E=1)(hl:P.cellsOf T=2)(h:DataW.trod enc P w 0 (fun _=>true) true fuel T cs=some x):
  ∃c0 c1 n y0 y1,cs=[c0,c1]∧DataW.trod enc P w 0 (fun _=>true) true n E [c0]=some y0∧DataW.trod enc P w 0 (fun _=>true) true n E [c1]=some y1:=by
 cases fuel with
 |zero=>simp[DataW.trod]at h
 |succ n=>
  unfold DataW.trod at h;rw[ht]at h;have r2:List.range 2=[0,1]:=rfl;simp only[r2,hc,hl]at h
  by_cases hlen:cs.length=2
  ·match cs,hlen with
   |[c0,c1],_=>
    simp at h
    cases h0:DataW.trod enc P w 0 (fun _=>true) true n E [c0]with
    |none=>simp[h0]at h
    |some y0=>
     cases h1:DataW.trod enc P w 0 (fun _=>true) true n E [c1]with
     |none=>simp[h0,h1]at h
     |some y1=>exact⟨c0,c1,n,y0,y1,rfl,h0,h1⟩
  ·simp[hlen]at h
theorem Jhn(hf:Fit P H):∀(m:Nat) (t:Ty),Jw t<m→∀(T:Nat),H.ty T=some t→∀(fuel:Nat) (cs:List Value) (x:DataW H'×List MemPlace),DataW.trod enc P w 0 (fun _=>true) true fuel T cs=some x→∃y:Den t,Rep w (fun b=>b<w.heap.size) false t y cs:=by
 intro m
 induction m with
 |zero=>intro t h;omega
 |succ m ih=>
  intro t hm T hT fuel cs x hx;have hft:=hf.ty T t hT;have hu:=hft.under;unfold UFit at hu
  have hcells:∀T' u,H.ty T'=some u→P.cellsOf T'=size u:=by
   intro T' u hT';obtain⟨i,z,h1,h2,_⟩:=(hf.ty T' u hT').info;simp[Program.cellsOf,h1,h2]
  have hstruct:SFit P H T t∨AFit P H T t→isAgg t=true→∃y:Den t,Rep w (fun b=>b<w.heap.size) false t y cs:=by
   rintro(⟨hnz,fs,h1,h2,_,h3⟩|⟨_,rfl,_,E,h1,h2,i,h3,h4⟩) hag
   ·obtain⟨xs,n,_,_,hl,hlen,hfd⟩:=DataW.trod_struct h1 hx;refine Jcu t (H.nf T) cs hnz hag (fun i hi=> ?_) (by rw[hl,hcells T t hT])
    have hi':i<fs.size:=by omega
    obtain⟨q,u,k1,k2,k3,_⟩:=h3 i fs[i] (by simp[hi']);have hd:=hfd i fs[i] (by simp[hi']);rw[Ka (by omega),k2,hcells _ u k3]at hd;obtain⟨y,hy⟩:=ih u (by have:=Jaw _ _ _ _ _ k1;omega) _ k3 _ _ _ hd;exact⟨q,u,k1,y,hy⟩
   ·have hcE:P.cellsOf E=1:=by simp[Program.cellsOf,h3,h4]
    obtain⟨c0,c1,n,y0,y1,rfl,g0,g1⟩:=Jba h1 hcE (by rw[hcells T _ hT];rfl) hx;obtain⟨n0,e0,_,w0⟩:=DataW.trod_int h2 g0;obtain⟨n1,e1,_,w1⟩:=DataW.trod_int h2 g1;simp only[K10,and_true]at e0 e1;subst e0 e1;simp only[Lit.wf,K7,decide_eq_true_eq]at w0 w1;refine⟨(n0,n1),?_⟩;simp only[Rep];exact⟨[.int .i64 n0],[.int .i64 n1],rfl,⟨rfl,w0⟩,rfl,w1⟩
  cases t with
  |int k=>
   obtain⟨n,rfl,_,hw⟩:=DataW.trod_int hu hx;simp only[Lit.wf,K7,decide_eq_true_eq]at hw;exact⟨n,by simp only[Rep];exact⟨trivial,hw⟩⟩
  |bool=>
   obtain⟨b,rfl,_⟩:=DataW.trod_bool hu hx;exact⟨b,by simp only[Rep]⟩
  |sl u=>
   obtain⟨E,h1,h2⟩:=hu;have hsz:=hcells E u h2;have hpos:=(hf.ty E u h2).pos
   rcases DataW.trod_slice h1 hx with⟨rfl,_⟩|⟨a,len,cap,elems,rest,n,_,rfl,_,_,hl,hm2,hlen,hel,hsp,_⟩
   ·exact⟨(true,[]),by simp only[Rep];exact .inl ⟨trivial,trivial,trivial⟩⟩
   ·rw[hsz]at hel hsp
    by_cases hc:cap=0
    ·have hl0:len=0:=by omega
     subst hc hl0;exact⟨(false,[]),by simp only[Rep];exact .inr (.inr ⟨trivial,trivial,a,rfl⟩)⟩
    ·have hspot:a.spot=none:=by
      by_cases hl0:len=0
      ·subst hl0;obtain⟨r1,r2⟩:=hsp rfl;have h3:=r2 0 (by omega);rw[Ka (by omega),Ki]at h3;obtain⟨c,h4,_⟩:=h3;simp only[K2d,Nat.zero_mul]at h4;exact(J4q h4 hpos).1
      ·have h3:=hel 0 (by omega);rw[Ka (by omega),Ki]at h3;obtain⟨c,h4,_⟩:=h3;simp only[Nat.zero_mul]at h4;exact(J4q h4 hpos).1
     obtain⟨b,o,sp⟩:=a;simp only at hspot;subst hspot
     obtain⟨ys,hy,hp⟩:=Jgd len (fun i y=>b<w.heap.size∧∃c,c.length=size u∧rd w b (o+i*size u) c∧Rep w (fun b=>b<w.heap.size) false u y c) (fun i hi=>by
      have h3:=hel i hi;rw[Ka (by omega),Ki]at h3;obtain⟨c,h4,h5⟩:=h3;obtain⟨y,h6⟩:=ih u (by simp only[Jw]at hm;omega) E h2 _ _ _ h5;rw[Addr.add_none]at h4;refine⟨y,(J4q h4 hpos).2,c,Jk _ _ _ h6,?_,h6⟩;obtain⟨_,k1,k2⟩:=World.cells?_some h4;intro j v hj;have hjl:=(Kb.1 hj).1;have:=k2 j (by omega);rw[Addr.add_none,hj]at this
      exact this)
     refine⟨(false,ys),?_⟩;simp only[Rep];refine .inr (.inl ⟨trivial,b,o,cap,?_,?_,?_,fun i e he=>hp i e he⟩)
     ·rw[hy]
     ·rw[hy];exact hl
     ·rw[hy];unfold maxLen at hm2;unfold big;omega
  |fn f c=>exact hu.elim
  |hsl u=>exact hu.elim
  |nil=>exact hstruct hu rfl
  |one a=>exact hstruct hu rfl
  |pair a b=>exact hstruct hu rfl
theorem Jgg(hf:Fit P H){S:Nat→Prop}(hS:S=fun b=>b<w.heap.size){hv:Nat→Value}{g:Look}{T:Nat}{t:Ty}(hT:H.ty T=some t){r:Reach}{b0:Nat}{v:Value}{dd:DataW H'}{p:List MemPlace}
  (hv0:Value.okWide P w r b0 T v)(h:DataW.Trod enc P w 0 (fun _=>true) true T v dd p):∃x:Den t,VR w S hv g (.v t x) v∧WfD t x:=by
 obtain⟨fuel,hx⟩:=h;obtain⟨y,hy⟩:=Jhn hf _ t (Nat.lt_succ_self _) T hT _ _ _ hx;rw[←hS]at hy;refine⟨y,?_,Jg4 _ _ _ hy⟩;have hft:=hf.ty T t hT;have hu:=hft.under;unfold UFit at hu
 have hstruct:SFit P H T t∨AFit P H T t→isAgg t=true→VR w S hv g (.v t y) v:=by
  intro hsa hag
  have hcs:∃cs,v= .agg cs:=by
   rcases hsa with⟨_,fs,h1,_⟩|⟨_,_,_,E,h1,_⟩
   ·obtain⟨cs,h,_⟩:=okWide_struct h1 hv0;exact⟨cs,h⟩
   ·simp only[Value.okWide,h1]at hv0;obtain⟨cs,h,_⟩:=hv0;exact⟨cs,h⟩
  obtain⟨cs,rfl⟩:=hcs;show V0 _ _ _;exact .inr (.inl ⟨hag,cs.toList,by simp,by simpa[CRep,Value.cells]using hy⟩)
 cases t with
 |int k=>
  obtain⟨n,rfl⟩:=okWide_int hu hv0;rw[VR_v rfl];simpa[Value.cells]using hy
 |bool=>
  obtain⟨n,rfl⟩:=okWide_bool hu hv0;rw[VR_v rfl];simpa[Value.cells]using hy
 |sl u=>
  obtain⟨E,h1,_⟩:=hu;obtain⟨a,len,cap,rfl⟩:=okWide_slice h1 hv0;rw[VR_v rfl];simpa[Value.cells]using hy
 |fn f c=>exact hu.elim
 |hsl u=>exact hu.elim
 |nil=>exact hstruct hu rfl
 |one a=>exact hstruct hu rfl
 |pair a b=>exact hstruct hu rfl
theorem J84{S:Nat→Prop}{hv:Nat→Value}{g:Look}{t:Ty}{x:Den t}{v:Value}{s:SV}{vs:List Value}(h:VR w S hv g (.v t x) v)(hs:CRep w S hv g true s vs):CRep w S hv g true (.tup (.v t x) s) (v::vs):=by
 simp only[CRep];exact⟨v,vs,rfl,Jg7 h,hs⟩
theorem Jfs{S:Nat→Prop}{hv:Nat→Value}{g:Look}:CRep w S hv g true .unit []:=by simp only[CRep]
theorem Jee(hf:Fit P H)(hn:Jdl P H){key:Nat}{h:FnH}(hk:H.key key=some h){x:Den (tyOf (aTys H key))}{y:Den (tyOf (rTys H key))}(hx:(inf H).call key x=some y){sv:SV}{b:Bool}
  (hr:reb h.pars (J11 (aTys H key) x)=some ⟨sv,[],[]⟩)(hs:reb h.outs (J11 (rTys H key) y)=some ⟨.tup (.v .bool b) .unit,[],[]⟩)(hb:h.bk.length=0){vs:List Value}
  (ha:CRep w (fun b=>b<w.heap.size) (fun _=>undef) (fun _=>none) true sv vs):Calls P h.fid vs.toArray w fun e w'=>e= .returned (.bool b)∧Below w.heap.size w w':=by
 obtain⟨k,hx⟩:=J4d.1 hx;obtain⟨r,k1,_,_,_,k2⟩:=(Jej hf hn k).1 key x y hx h hk;rw[hr]at k1;simp only[K0]at k1;subst k1
 refine(k2 w (fun b=>b<w.heap.size) (fun _=>undef) (fun _ _=>False) vs ⟨fun c r h=>(by cases h),fun c b h=>h.elim,fun c c' b h=>h.elim,fun c b h=>h.elim,fun c b h=>h.elim,fun b h=>h⟩ ha).mono fun e w' he=> ?_
 obtain⟨v,s,rfl,k3,S',hv',F',hE,hV⟩:=he;rw[hs]at k3;simp only[K0]at k3;subst k3;rw[hb]at hV;have hv0:v= .bool b:=J3b.1 hV;subst hv0;exact⟨rfl,hE.st.1,hE.st.2.2,hE.st.2.1,hE.sz,fun i hi=>hE.fr i hi fun c hc=>hc⟩
end
end Go.Rf
namespace Go.Rf
def zEq:Value→Value→Bool
 | .int k n,.int k' n'=>decide (k=k')&&n==n'
 | .bool a,.bool b=>a==b
 | .slice none 0 0,.slice none 0 0=>true
 | .nilFunc,.nilFunc =>true
 |_,_=>false
theorem Jfr{a b:Value}(h:zEq a b=true):a=b:=by
 unfold zEq at h;split at h
 ·simp only[K7,decide_eq_true_eq,beq_iff_eq]at h;rw[h.1,h.2]
 ·simp only[beq_iff_eq]at h;rw[h]
 ·rfl
 ·rfl
 ·cases h
def zEqL:List Value→List Value→Bool
 |[],[]=>true
 |a::l,b::m=>zEq a b&&zEqL l m
 |_,_=>false
theorem Ja7:∀{l m:List Value},zEqL l m=true→l=m
 |[],[],_=>rfl
 |a::l,b::m,h=>by
  simp only[zEqL,K7]at h;rw[Jfr h.1,Ja7 h.2]
 |[],_::_,h=>by simp[zEqL]at h
 |_::_,[],h=>by simp[zEqL]at h
def Jen:Value→Bool
 | .agg _=>false
 |_=>true
def Jh0(P:Program)(T:Nat)(t:Ty):Bool:=match P.info? T with
 |some i=>(i.size==size t)&&(Nat.ble i.bytes 128&&(match i.zero with
  |some z=>zEqL z.cells.toList (Jf t)&&(Jen z== !isAgg t)
  |none=>false))
 |none=>false
def J8k(H:Hints)(t:Ty)(n:Nat):Nat→List Field→Bool
 |_,[]=>true
 |i,f::l=>(match Je t n i with
  |some (q,u)=>(f.offset==J3 q)&&((match H.ty f.type with
   |some u'=>decide (u'=u)
   |none=>false)&& !(f.name== "_"))
  |none=>false)&&J8k H t n (i+1) l
def Jc4(k:IntKind):Option TypeDesc→Bool
 |some (.int k')=>decide (k'=k)
 |_=>false
def Jed:Option TypeDesc→Bool
 |some .bool =>true
 |_=>false
def Jg0:Option TypeDesc→Option Nat
 |some (.slice E)=>some E
 |_=>none
def Jb9:Option TypeDesc→Option (Array Field)
 |some (.struct fs)=>some fs
 |_=>none
def J8w(P:Program)(H:Hints)(T:Nat)(t:Ty):Bool:=match Jb9 (P.underlying T)with
 |some fs=>(fs.size==H.nf T)&&(!(P.stoodInHeld T)&&J8k H t (H.nf T) 0 fs.toList)
 |none=>false
def arrD:Option TypeDesc→Option Nat
 |some (.array 2 E)=>some E
 |_=>none
def arrB(P:Program)(T:Nat)(t:Ty):Bool:=decide (t= .pair (.int .i64) (.int .i64))&&(!(P.stoodInHeld T)&&(match arrD (P.underlying T)with
 |some E=>Jc4 .i64 (P.underlying E)&&(match P.info? E with
  |some i=>i.size==1
  |none=>false)
 |none=>false))
def mapB(P:Program)(e:Nat×(Nat×Nat)):Bool:=match P.underlying e.1 with
 |some (.map K E)=>K==e.2.1&&E==e.2.2
 |_=>false
def Jbb(P:Program)(H:Hints)(T:Nat)(t:Ty):Bool:=match t with
 | .int k=>Jc4 k (P.underlying T)
 | .bool =>Jed (P.underlying T)
 | .sl u=>(match Jg0 (P.underlying T)with
  |some E=>(match H.ty E with
   |some u'=>decide (u'=u)
   |none=>false)
  |none=>false)
 | .fn _ _=>false
 | .hsl _=>false
 |t=>(match H.nf T with
  |0=>arrB P T t
  |_=>J8w P H T t)
def Jgk(P:Program)(H:Hints)(T:Nat)(t:Ty):Bool:=
 Jh0 P T t&&(Nat.blt 0 (size t)&&(plain t&&(Nat.blt (Jw t) 1000&&(!(P.eqGuardType P.depth T)&&Jbb P H T t))))
theorem Ja1{d:Option TypeDesc}{fs:Array Field}(h:Jb9 d=some fs):d=some (.struct fs):=by
 unfold Jb9 at h;split at h
 ·simp at h;rw[h]
 ·cases h
theorem J57{H:Hints}{t:Ty}{n:Nat}:∀(l:List Field) (i:Nat),J8k H t n i l=true→∀j f,l[j]? =some f→∃q u,Je t n (i+j)=some (q,u)∧f.offset=J3 q∧H.ty f.type=some u∧(f.name== "_")=false
 |[],i,_,j,f,h=>by simp at h
 |g::l,i,hb,j,f,h=>by
  simp only[J8k,K7]at hb
  cases j with
  |zero=>
   simp at h;subst h;have h1:=hb.1;split at h1
   ·rename_i q u hq;simp only[K7,K1r,beq_iff_eq]at h1;obtain⟨h2,h3,h4⟩:=h1;split at h3
    ·rename_i u' hu;have:=of_decide_eq_true h3;subst this;exact⟨q,u',hq,h2,hu,h4⟩
    ·cases h3
   ·cases h1
  |succ j=>
   have:=J57 l (i+1) hb.2 j f (by simpa using h);rw[K1h,Nat.add_comm 1 j]at this;exact this
theorem Ja0{P:Program}{H:Hints}{T:Nat}{t:Ty}(h:J8w P H T t=true):∃fs,P.underlying T=some (.struct fs)∧fs.size=H.nf T∧P.stoodInHeld T=false∧∀i f,fs[i]? =some f→∃q u,Je t (H.nf T) i=some (q,u)∧f.offset=J3 q∧H.ty f.type=some u∧(f.name== "_")=false:=by
 unfold J8w at h;split at h
 ·rename_i fs hfs;simp only[K7,K1r,beq_iff_eq]at h;refine⟨fs,Ja1 hfs,h.1,h.2.1,fun i f hf=> ?_⟩;have:=J57 _ 0 h.2.2 i f (by simpa using hf);rw[K1o]at this;exact this
 ·cases h
theorem Jdw{P:Program}{H:Hints}{T:Nat}{t:Ty}(h0:H.nf T=0)(h:arrB P T t=true):AFit P H T t:=by
 unfold arrB at h;simp only[K7,decide_eq_true_eq,K1r]at h;obtain⟨h1,h2,h3⟩:=h;split at h3
 ·rename_i E hE;simp only[K7]at h3;obtain⟨h4,h5⟩:=h3;refine⟨h0,h1,h2,E,?_,?_,?_⟩
  ·unfold arrD at hE;split at hE
   ·rename_i E' hE';simp only[K0]at hE;rw[hE',hE]
   ·cases hE
  ·unfold Jc4 at h4;split at h4
   ·rename_i k hk;rw[hk,of_decide_eq_true h4]
   ·cases h4
  ·split at h5
   ·rename_i i hi;exact⟨i,hi,by simpa using h5⟩
   ·cases h5
 ·cases h3
theorem J8u{P:Program}{H:Hints}{T:Nat}{t:Ty}(h:(match H.nf T with
  |0=>arrB P T t
  |_=>J8w P H T t)=true):SFit P H T t∨AFit P H T t:=by
 split at h
 ·rename_i h0;exact .inr (Jdw h0 h)
 ·rename_i h0;exact .inl ⟨fun e=>h0 e,Ja0 h⟩
theorem Jd9{P:Program}{H:Hints}{T:Nat}{t:Ty}(h:Jbb P H T t=true):UFit P H T t:=by
 cases t with
 |int k=>
  simp only[Jbb]at h;show P.underlying T=_;unfold Jc4 at h;split at h
  ·rename_i k' hk;rw[hk,of_decide_eq_true h]
  ·cases h
 |bool=>
  simp only[Jbb]at h;show P.underlying T=_;unfold Jed at h;split at h
  ·assumption
  ·cases h
 |sl u=>
  simp only[Jbb]at h;split at h
  ·rename_i E hE;split at h
   ·rename_i u' hu;have:=of_decide_eq_true h;subst this;refine⟨E,?_,hu⟩;unfold Jg0 at hE;split at hE
    ·rename_i E' hE';simp at hE;rw[hE',hE]
    ·cases hE
   ·cases h
  ·cases h
 |fn f c=>simp[Jbb]at h
 |hsl u=>simp[Jbb]at h
 |nil=>exact J8u h
 |one a=>exact J8u h
 |pair a b=>exact J8u h
theorem Jd8{P:Program}{H:Hints}{T:Nat}{t:Ty}(h:Jgk P H T t=true):TFit P H T t:=by
 unfold Jgk at h;simp only[K7,K1r,Nat.blt_eq,Bool.or_eq_true]at h;obtain⟨h1,h2,h3,h4,h6,h7⟩:=h;refine⟨?_,h2,h3,h4,h6,Jd9 h7⟩
 ·unfold Jh0 at h1;split at h1
  ·rename_i i hi;simp only[K7,beq_iff_eq,Nat.ble_eq]at h1;obtain⟨k1,k2,k3⟩:=h1;split at k3
   ·rename_i z hz;simp only[K7,beq_iff_eq]at k3;refine⟨i,z,hi,k1,k2,hz,Ja7 k3.1,fun hag=> ?_,fun hag=> ?_⟩
    ·have:=k3.2;rw[hag]at this;cases z<;>simp[Jen]at this;exact⟨_,rfl⟩
    ·have:=k3.2;rw[hag]at this;refine⟨z,?_,rfl⟩;cases z<;>simp[Jen]at this<;>rfl
   ·cases k3
  ·cases h1
def Jgu(P:Program)(T:Nat):Bool:=(match P.info? T with
 |some i=>i.size==1
 |none=>false)&&(match P.underlying T with
 |some d=> !J4p d
 |none=>false)
theorem J1n{α:Type}:∀{l:List (Nat×α)} {k:Nat} {a:α},J13 l k=some a→(k,a)∈l
 |[],k,a,h=>by simp[J13]at h
 |(j,b)::l,k,a,h=>by
  simp only[J13]at h;cases hj:(j==k)
  ·rw[hj]at h;exact K9 _ (J1n h)
  ·rw[hj]at h
   have:j=k:=by simpa using hj
   simp only[cond_true,K0]at h;subst this h;exact Kk ..
def Jg3(P:Program):List (Nat×FnH)→Prop
 |[]=>True
 |e::l=>(P.funcs[e.2.fid]? =some e.2.f∧e.2.f.body.isSome=true∧(e.2.f.name== "runtime.NumGoroutine")=false)∧Jg3 P l
theorem J90{P:Program}:∀{l:List (Nat×FnH)},Jg3 P l→∀e∈l,P.funcs[e.2.fid]? =some e.2.f∧e.2.f.body.isSome=true∧(e.2.f.name== "runtime.NumGoroutine")=false
 |[],_,e,he=>by cases he
 |a::l,h,e,he=>by
  rcases Kd.1 he with rfl|he
  ·exact h.1
  ·exact J90 h.2 e he
def Jde(P:Program):List (Nat×ExtF)→Prop
 |[]=>True
 |e::l=>(∀(x y c:Int) (w:World),0≤x→0≤y→0≤c→c≤1→
  (callFunc e.1 #[.int .u64 x,.int .u64 y,.int .u64 c]).run P w= .ok (.value (.tuple #[.int .u64 ((x+y+c)%18446744073709551616),.int .u64 ((x+y+c) / 18446744073709551616)])) w)∧Jde P l
theorem J7b{P:Program}:∀{l:List (Nat×ExtF)},Jde P l→∀e∈l,∀(x y c:Int) (w:World),0≤x→0≤y→0≤c→c≤1→
  (callFunc e.1 #[.int .u64 x,.int .u64 y,.int .u64 c]).run P w= .ok (.value (.tuple #[.int .u64 ((x+y+c)%18446744073709551616),.int .u64 ((x+y+c) / 18446744073709551616)])) w
 |[],_,e,he=>by cases he
 |a::l,h,e,he=>by
  rcases Kd.1 he with rfl|he
  ·exact h.1
  ·exact J7b h.2 e he
theorem Jgx{P:Program}{H:Hints}{exts:List (Nat×ExtF)}{tys:List (Nat×Ty)}{cells:List Nat}{keys:List (Nat×FnH)}{mtys:List (Nat×(Nat×Nat))}(e1:H.extF=J13 exts)(e2:H.ty=J13 tys)(e3:H.cell=hasN cells)(e4:H.key=J13 keys)(e5:H.mty=J13 mtys)(h6:mtys.all (mapB P)=true)
  (h1:(tys.all fun e=>Jgk P H e.1 e.2)=true)(h2:cells.all (Jgu P)=true)(h3:Jg3 P keys)(h4:Jde P exts)(h5:P.follows .mixedOrders =true):Fit P H where
 ty:=fun T t h=>by
  rw[e2]at h;exact Jd8 (K11.1 h1 _ (J1n h))
 cell:=fun T _ h=>by
  rw[e3]at h;have:=K11.1 h2 T (J21.1 h);unfold Jgu at this;simp only[K7]at this;obtain⟨k1,k2⟩:=this;refine⟨?_,?_⟩
  ·split at k1
   ·rename_i i hi;exact⟨i,hi,by simpa using k1⟩
   ·cases k1
  ·split at k2
   ·rename_i d hd;exact⟨d,hd,by simpa using k2⟩
   ·cases k2
 fn:=fun key h hk=>by
  rw[e4]at hk;exact J90 h3 _ (J1n hk)
 add64:=fun f hx=>by
  rw[e1]at hx;exact J7b h4 _ (J1n hx)
 mixed:=h5
 maps:=fun T K E h=>by
  rw[e5]at h;have:=K11.1 h6 _ (J1n h);unfold mapB at this;split at this
  ·rename_i K' E' hu;simp only[K7,beq_iff_eq]at this;obtain⟨h1,h2⟩:=this;rw[hu,h1,h2]
  ·cases this
theorem Jh1{P:Program}{H:Hints}{keys:List (Nat×FnH)}(e4:H.key=J13 keys)(h:Jdk P keys):Jdl P H:=by
 intro key h' f x y hk hf he;have hm:=J7e h _ (J1n (by rw[←e4];exact hk));simp only at hm
 cases hm with
 |plain hm=>rw[hf]at hm;cases hm
 |sort hs=>
  have hf':some J9x=some f:=hf;obtain rfl:=Option.some.inj hf';exact Jey hs hk he
 |compact hne hs=>
  have hf':some J1z=some f:=hf;obtain rfl:=Option.some.inj hf';exact J99 hne hs hk he
end Go.Rf
namespace Go.Rf
theorem gT{α:Type}{p:Prop}[Decidable p]{a b:α}(h:p):(bif decide p then a else b)=a:=by simp[h]
theorem gF{α:Type}{p:Prop}[Decidable p]{a b:α}(h:¬p):(bif decide p then a else b)=b:=by simp[h]
theorem bT{α:Type}{p:Bool}{a b:α}(h:p=true):(bif p then a else b)=a:=by simp[h]
theorem bF{α:Type}{p:Bool}{a b:α}(h:p=false):(bif p then a else b)=b:=by simp[h]
theorem beqF{a b:Int}(h:¬a=b):(a==b)=false:=by simpa using h
theorem J1{α:Type}(x:Option α):(x.bind fun r=>some r)=x:=by cases x<;>rfl
theorem J0{α β:Type}(a:α)(f:α→Option β):(some a).bind f=f a:=rfl
def U64(n:Int):Prop:=0≤n∧n<18446744073709551616
theorem Jab{n:Int}(h:WfD (.int .u64) n):U64 n:=by
 have h:(0:Int)≤n∧n≤18446744073709551615:=h;unfold U64;omega
theorem wr{n:Int}(h: -9223372036854775808≤n∧n<9223372036854775808):IntKind.i64.wrap n=n:=by
 simp only[IntKind.wrap,IntKind.bits,IntKind.signed];simp;omega
theorem J51(n:Int):IntKind.u64.wrap n=n%18446744073709551616:=by
 simp[IntKind.wrap,IntKind.bits,IntKind.signed]
theorem wru{n:Int}(h:0≤n∧n<18446744073709551616):IntKind.u64.wrap n=n:=by
 rw[J51];omega
theorem up1(i:Nat)(h:i<4611686018427387904):IntKind.i64.wrap ((i:Int)+1)=((i+1:Nat):Int):=by
 rw[wr (by omega)];omega
theorem dn1(i:Nat)(h:i<4611686018427387904)(h0:0<i):IntKind.i64.wrap ((i:Int)-1)=((i-1:Nat):Int):=by
 rw[wr (by omega)];omega
theorem J4:lim=1099511627776:=rfl
theorem J61:big=9223372036854775807:=rfl
theorem J2{α:Type}(xs:List α)(z:α)(i:Nat)(h:i<xs.length):xs.getD ((i:Int)).toNat z=xs[i]:=by
 simp[K1,h]
theorem J8e(a b:Nat)(ha:a<2^64)(hb:b<2^64):bAnd .u64 (a:Int) (b:Int)=((a&&&b:Nat):Int):=by
 unfold bAnd;show IntKind.u64.wrap (((BitVec.ofInt 64 (a:Int)&&&BitVec.ofInt 64 (b:Int)).toNat :Nat):Int)=_;rw[BitVec.toNat_and,BitVec.ofInt_natCast,BitVec.ofInt_natCast,BitVec.toNat_ofNat,BitVec.toNat_ofNat,K2a ha,K2a hb];have:=Nat.and_lt_two_pow a hb;exact wru ⟨by omega,by simp at this;omega⟩
theorem J93(a b:Nat)(ha:a<2^64)(hb:b<2^64):bOr .u64 (a:Int) (b:Int)=((a|||b:Nat):Int):=by
 unfold bOr;show IntKind.u64.wrap (((BitVec.ofInt 64 (a:Int)|||BitVec.ofInt 64 (b:Int)).toNat :Nat):Int)=_;rw[BitVec.toNat_or,BitVec.ofInt_natCast,BitVec.ofInt_natCast,BitVec.toNat_ofNat,BitVec.toNat_ofNat,K2a ha,K2a hb];have:=Nat.or_lt_two_pow ha hb;exact wru ⟨by omega,by simp at this;omega⟩
theorem Jg9(a b:Nat)(ha:a<2^64)(hb:b<2^64):bXor .u64 (a:Int) (b:Int)=((a^^^b:Nat):Int):=by
 unfold bXor;show IntKind.u64.wrap (((BitVec.ofInt 64 (a:Int)^^^BitVec.ofInt 64 (b:Int)).toNat :Nat):Int)=_;rw[BitVec.toNat_xor,BitVec.ofInt_natCast,BitVec.ofInt_natCast,BitVec.toNat_ofNat,BitVec.toNat_ofNat,K2a ha,K2a hb];have:=Nat.xor_lt_two_pow ha hb;exact wru ⟨by omega,by simp at this;omega⟩
theorem Jgj(i:Nat)(h:i<64):bShl .u64 1 (i:Int)=((2^i:Nat):Int):=by
 unfold bShl
 have e:min ((i:Int)).toNat (IntKind.u64.bits)=i:=by
  simp only[K3,IntKind.bits];omega
 rw[e,Int.one_mul];have h2:(2:Nat)^i<2^64:=Nat.pow_lt_pow_right (by decide) h;rw[wru]
 ·simp
 ·refine⟨Int.le_of_lt (Int.pow_pos (by decide)),?_⟩
  have:((2^i:Nat):Int)<((2^64:Nat):Int):=by exact_mod_cast h2
  simpa using this
theorem Jff(a i:Nat):(a%2^i)|||(a&&&2^i)=a%2^(i+1):=by
 apply Nat.eq_of_testBit_eq;intro j;rw[Nat.testBit_or,Nat.testBit_and,Nat.testBit_mod_two_pow,Nat.testBit_mod_two_pow,Nat.testBit_two_pow]
 by_cases h1:j<i
 ·have h2:j<i+1:=by omega
  have h3:¬i=j:=by omega
  simp[h1,h2,h3]
 ·by_cases h3:i=j
  ·subst h3;simp
  ·have h2:¬j<i+1:=by omega
   simp[h1,h2,h3]
theorem J4f{n:Nat}(h:n≤64):(2:Nat)^n≤18446744073709551616:=by
 have:(2:Nat)^n≤2^64:=Nat.pow_le_pow_right (by decide) h;simpa using this
theorem Jgf(n:Nat)(h0:1≤n)(h1:n≤64):bShr .u64 18446744073709551615 (IntKind.i64.wrap (64-(n:Int)))=((2^n-1:Nat):Int):=by
 rw[wr (by omega)];unfold bShr
 have e:min ((64:Int)-(n:Int)).toNat (IntKind.u64.bits)=64-n:=by
  simp only[IntKind.bits];omega
 rw[e];have hp:0<(2:Nat)^(64-n):=Nat.two_pow_pos _
 have hq:(2:Nat)^n*2^(64-n)=18446744073709551616:=by
  rw[←Nat.pow_add,show n+(64-n)=64 by omega]
 have hn:0<(2:Nat)^n:=Nat.two_pow_pos _
 have key:18446744073709551615 / 2^(64-n)=2^n-1:=by
  have:18446744073709551615=(2^n-1)*2^(64-n)+(2^(64-n)-1):=by
   rw[Nat.sub_mul,Nat.one_mul,hq];have:2^(64-n)≤18446744073709551616:=J4f (by omega);omega
  rw[this,Nat.mul_comm,Nat.mul_add_div hp,Nat.div_eq_of_lt (by omega),K2d]
 have e2:((2:Int)^(64-n))=((2^(64-n):Nat):Int):=by simp
 rw[e2,Int.fdiv_eq_ediv_of_nonneg _ (by omega)]
 have:((18446744073709551615:Nat):Int) / ((2^(64-n):Nat):Int)=((2^n-1:Nat):Int):=by
  rw[←Int.natCast_ediv,key]
 simpa using this
theorem Jy{α σ ρ:Type}(l:List α)(f:σ→α→σ)(g:σ→ρ)(F:σ→Int→Option ρ)(inv:Nat→σ→Prop)
  (hs:∀(i:Nat) (h:i<l.length) (s:σ),inv i s→F s (i:Int)=F (f s l[i]) ((i+1:Nat):Int)∧inv (i+1) (f s l[i]))(he:∀s,inv l.length s→F s (l.length:Int)=some (g s))(s:σ)(h0:inv 0 s):F s 0=some (g (l.foldl f s)):=by
 have key:∀(d i:Nat) (s:σ),i+d=l.length→inv i s→F s (i:Int)=some (g ((l.drop i).foldl f s)):=by
  intro d
  induction d with
  |zero=>
   intro i s hi hinv
   obtain rfl:i=l.length:=by omega
   rw[he s hinv];simp
  |succ d ih=>
   intro i s hi hinv
   have hlt:i<l.length:=by omega
   obtain⟨h1,h2⟩:=hs i hlt s hinv;rw[h1,ih (i+1) _ (by omega) h2,K2 hlt,K17]
 have:=key l.length 0 s (by omega) h0;simpa using this
theorem J3m{α β:Type}(l:List α)(q:α→Bool)(good bad:β)(F:Int→Option β)
  (hs:∀(i:Nat) (h:i<l.length),F (i:Int)=bif q l[i]then F ((i+1:Nat):Int)else some bad)
  (he:F (l.length:Int)=some good):F 0=some (bif l.all q then good else bad):=by
 have key:∀(d i:Nat),i+d=l.length→F (i:Int)=some (bif (l.drop i).all q then good else bad):=by
  intro d
  induction d with
  |zero=>
   intro i hi
   obtain rfl:i=l.length:=by omega
   rw[he];simp
  |succ d ih=>
   intro i hi
   have hlt:i<l.length:=by omega
   rw[hs i hlt,K2 hlt,List.all_cons]
   cases hq:q l[i]with
   |false=>simp
   |true=>
    rw[cond_true,ih (i+1) (by omega)];simp
 have:=key l.length 0 (by omega);simpa using this
theorem Ja{α:Type}(l:List α)(q:α→Bool)(F:Int→Option (Int ⊕ Unit))
  (hs:∀(i:Nat) (h:i<l.length),F (i:Int)=bif q l[i]then some (.inl (i:Int))else F ((i+1:Nat):Int))
  (he:F (l.length:Int)=some (.inr ())):F 0=some (bif l.any q then .inl (l.findIdx q:Int)else .inr ()):=by
 have key:∀(d i:Nat),i+d=l.length→F (i:Int)=some (bif (l.drop i).any q then .inl ((i+(l.drop i).findIdx q:Nat):Int)else .inr ()):=by
  intro d
  induction d with
  |zero=>
   intro i hi
   obtain rfl:i=l.length:=by omega
   rw[he];simp
  |succ d ih=>
   intro i hi
   have hlt:i<l.length:=by omega
   rw[hs i hlt,K2 hlt,List.any_cons,List.findIdx_cons]
   cases hq:q l[i]with
   |true=>simp
   |false=>
    rw[cond_false,ih (i+1) (by omega)];simp only[K27,cond_false];rw[show i+1+(l.drop (i+1)).findIdx q=i+((l.drop (i+1)).findIdx q+1) by omega]
 have:=key l.length 0 (by omega);simpa using this
theorem Jc{α:Type}{l:List α}{q:α→Bool}{x:Option (Int ⊕ Unit)}(h:x=some (bif l.any q then .inl (l.findIdx q:Int)else .inr ())):
  ((x.bind fun r=>match r with
   | .inl y=>some y
   | .inr z=>some (-1)).bind fun r=>some (decide (r≥0)))=some (l.any q):=by
 rw[h];cases hq:l.any q<;>simp
theorem J2y{α β:Type}(l:List α)(f:α→β)(F:Bool×List β→Int→Option (Bool×List β))(b:Bool)
  (hs:∀(i:Nat) (h:i<l.length) (x:List β),x.length=l.length→F (b,x) (i:Int)=F (b,x.set i (f l[i])) ((i+1:Nat):Int))
  (he:∀(x:List β),x.length=l.length→F (b,x) (l.length:Int)=some (b,x))(x:List β)(hx:x.length=l.length):F (b,x) 0=some (b,l.map f):=by
 have key:∀(d i:Nat) (x:List β),i+d=l.length→x.length=l.length→F (b,x) (i:Int)=some (b,x.take i++(l.drop i).map f):=by
  intro d
  induction d with
  |zero=>
   intro i x hi hx
   obtain rfl:i=l.length:=by omega
   rw[he x hx];simp[K1d (Nat.le_of_eq hx)]
  |succ d ih=>
   intro i x hi hx
   have hlt:i<l.length:=by omega
   rw[hs i hlt x hx,ih (i+1) _ (by omega) (by simpa using hx),K2 hlt,K12]
   have e:(x.set i (f l[i])).take (i+1)=x.take i++[f l[i]]:=by
    rw[K1f (by simpa using(by omega:i<x.length)),List.getElem_set_self,List.take_set_of_le (Kz _)]
   rw[e];simp
 have:=key l.length 0 x (by omega) hx;simpa using this
theorem gTo{α:Type}{p:Prop}[Decidable p]{a b:α}(h:p:=by omega):(bif decide p then a else b)=a:=gT h
theorem gFo{α:Type}{p:Prop}[Decidable p]{a b:α}(h:¬p:=by omega):(bif decide p then a else b)=b:=gF h
theorem gTs{α:Type}{p:Prop}[Decidable p]{a b:α}(h:p:=by simp only;omega):(bif decide p then a else b)=a:=gT h
theorem up1o(i:Nat)(h:i<4611686018427387904:=by omega):IntKind.i64.wrap ((i:Int)+1)=((i+1:Nat):Int):=up1 i h
end Go.Rf
