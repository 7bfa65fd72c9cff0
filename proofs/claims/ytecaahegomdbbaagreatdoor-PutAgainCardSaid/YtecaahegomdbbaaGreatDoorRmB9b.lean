/- Parts of the proof. -/
import Derived.Lib.BufferWrite
import Derived.Test.YtecaahegomdbbaaGreatDoorRmB5
import Derived.Test.YtecaahegomdbbaaGreatDoorRmB8
import Derived.Test.YtecaahegomdbbaaGreatDoorRmB9a
set_option linter.all false
set_option maxRecDepth 99999
set_option maxHeartbeats 0
namespace Go.Proofs.YtecaahegomdbbaaGreatDoor.gr
open Go.Proofs.Tryz
open Go.RowKit
variable {af:Array Edge} {full:Array li} {cs:Array i6} {Y:Env} {K:Env->i5->Prop} {hs:ip Nat} {ii:ip li} {ic:ip fL} {g:Nat} {x:i7} {pos:String} {d:Tmp} {R:i9} {w:i5} {H:i5->Prop} {t:fZ}
section
theorem Bq (p:En->Bool):∀(l:ip En) (k:Nat),(FE p l k= -1/\∀x∈l,p x=false)\/∃(i:Nat) (x:En),FE p l k=((k+i:Nat):Int)/\l[i]? =some x/\p x=true/\∀y∈l.take i,p y=false
 |[],k=> .inl ⟨rfl,λx f=>by cases f⟩
 | y::l,k=>by
  rw[FE];cases h:p y with
  |true=>exact .inr ⟨0,y,by rw[if_pos rfl];rfl,rfl,h,λz d=>by simp at d⟩
  | false=>
   rw[if_neg fU];rcases Bq p l (k+1)with⟨h1,g⟩|⟨i,x,h1,g,h3,m⟩
   .refine .inl ⟨h1,λx f=>?_⟩;rcases iu.1 f with rfl|f
    .exact h
    .exact g x f
   .refine .inr ⟨i+1,x,by rw[h1];congr 1;omega,g,h3,λz d=>?_⟩;rw[List.take_succ_cons]at d;rcases iu.1 d with rfl|d
    .exact h
    .exact m z d
def xV {α:Type} (p:α->Bool) {l:ip α} {j:Nat} {x:α} (h:l[j]? =some x):(l.take (j+1)).filter p=(l.take j).filter p++if p x then[x]else[]:=by
 rw[j2,h,MN];cases d:p x<;>simp[d]
def nB (p:En->Bool) (e:En):Bool:=!p e
structure DfI (w0:World) (B gE cE:Nat) (l:List En) (p:En->Bool) (x:Nat×Nat×List En) (w:World):Prop where
 f:Fr (· =gE) w0 w
 o:Ow hR 2 w B 49 (.S gE 0 l.length cE) x.2.2
 n:x.2.2.length=l.length
 ij:x.1<=x.2.1
 jn:x.2.1<=l.length
 a:x.2.2.take x.1=(l.take x.2.1).filter (nB p)
 d:x.2.2.drop x.2.1=l.drop x.2.1
attribute [local irreducible] xs T
def qJ (w:i5) (B d f:Nat) (l:ip En) (D:FuncId) (cap:Array i6) (p:En->Bool) (hO:Ow hR 2 w B 49 (.S d 0 l.length f) l) (aE:l.length<=1000000) (h0:0<l.length) (U:bit qR D=true)
  (X:∀w',Fr (· =d) w w'->∀x∈l,fQ prog D (#[.agg (hR x).toArray]++cap) w' λr aw=>r= .bool (p x)/\Ext w' aw):
  fQ prog 111 #[.S d 0 l.length f,.func (.func D) #[] cap] w λr w'=>r= .S d 0 (l.filter (nB p)).length f/\Ow hR 2 w' B 49 r (l.filter (nB p))/\Fr (· =d) w w':=by
 refine gP func111 fx fE ?_;obtain⟨_,_,e0,M,az⟩:=hO.form;injection e0 with _ _ e0
 subst e0;refine fA ?_;refine fI fx fx (zE w _ l D cap p hO.rw U λw' ad x n=>X w' ad.fr x n) ?_;rintro r aG ⟨rfl,G⟩;rcases Bq p l 0 with⟨h1,K⟩|⟨i0,ax,h1,Z,ao,K⟩
 .rw[h1];have al:l.filter (nB p)=l:=Xl.2 λx n=>by unfold nB;rw[K x n];rfl
  rw[al];refine fA ?_;exact fB fx fx ⟨rfl,hO.ext G,G.fr⟩
 .rw [h1,iM];have am:=(jR.1 Z).1;have aA:d<w.heap.size:=(hO.gO rfl).2;refine fA ?_
  refine gC (α:=Nat×Nat×ip En) (λx=>[(0,.S d 0 l.length f),(1,.func (.func D) #[] cap),(5,.I (x.1:Int)),(6,.I (x.2.1:Int))]) (DfI w B d f l p) (λx=>l.length-x.2.1) (i0,i0+1,l) (sub ⟨rfl,rfl,rfl,rfl⟩)
   ⟨G.fr,hO.ext G,rfl,K9 _,am,by
    dsimp only;rw[xV (nB p) Z,show nB p ax=false by unfold nB;rw[ao];rfl,if_neg fU,mR]
    exact(Xl.2 λy av=>by unfold nB;rw[K y av];rfl).symm,rfl⟩ ?_
  rintro⟨i,j,cur⟩ J ⟨m,v,E,W,an,C,H⟩;dsimp only at m v E W an C H|-;have z2:=m.size
  by_cases fY:j<l.length
  .obtain⟨x,n⟩:∃x,l[j]? =some x:=⟨_,j9 fY⟩;have au:=jT n
   have ar:cur[j]? =some x:=by
    have h3:(cur.drop j)[0]? =(l.drop j)[0]? :=by rw[H]
    rw[Bu,Bu,kB]at h3;rw[h3,n]
   obtain⟨_,_,g,_,_,_,_,ak⟩:=gK.go (show gK J B 49 2 (.S d 0 l.length f) cur.length (cur.flatMap hR)from v) fy;injection g with g _ _
   injection g with g
   injection g with g
   subst g;have I:=xV (nB p) n
   repeat' (first|refine gH j (j*2) fx fx fx fx fy fY ?_|refine fT ?_|fail)
   refine hV (cs:=hR x) fx fE (λq u hu=>ak _ u (flat_get gi ar hu)) ?_;refine fA ?_;refine gx (z:= .agg #[.string ⟨#[]⟩,.I 0]) fE (λF ab ae aF=>?_);refine fA ?_;refine gY ab fx fx fE fx (yy x) (λaa O ag=>?_);have Q:Ext J aa:=ae.trans ag λj aD e=>by have:j=J.heap.size:=e;omega
   refine fA ?_;refine gR (t:=49) O fx fx ?_;refine fA ?_;refine xa (vs:=[.agg (hR x).toArray]) fx fx U (X aa (m.te Q) x au) ?_;rintro r aH ⟨rfl,R⟩;have L:=Q.t R;have T:=v.ext L;cases Y:p x with
   |true=>
    have N:nB p x=false:=by unfold nB;rw[Y];rfl
    rw[N,if_neg fU,mR]at I;refine fA ?_;exact gl ⟨(i,j+1,cur),sub ⟨rfl,rfl,rfl,rfl⟩,⟨m.te L,T,E,by dsimp only;omega,fY,by rw[C,I],by dsimp only;rw[<-rU,H,rU]⟩,(by show l.length-(j+1)<l.length-j;omega)⟩
   |false=>
    have N:nB p x=true:=by unfold nB;rw[Y];rfl
    rw[N,if_pos rfl]at I;refine fA ?_;refine gR (t:=49) (O.ext R) fx fx ?_;refine OH ?_;refine F8 gi i T fx fx fx fE (λu hu=>mC [x] u (by simpa using hu)) fy (λaI aj ah=>?_);refine fA ?_;refine gl ⟨(i+1,j+1,cur.set i x),sub ⟨rfl,rfl,rfl,rfl⟩,⟨(m.te L).t ah,aj,by dsimp only;rw[nS];exact E,by dsimp only;omega,fY,?_,?_⟩,(by show l.length-(j+1)<l.length-j;omega)⟩
    .dsimp only;rw[I,<-C,j2,LH fy,Xe (gJ _)];rfl
    .dsimp only;rw[List.drop_set_of_lt fy,<-rU,H,rU]
  .obtain rfl:j=l.length:=fy;rw[kh]at C;have aC:i<=l.length:=W;have V:(l.filter (nB p)).length=i:=by rw[<-C,kv];omega
   have ap:(cur.flatMap hR).take (i*2)=(l.filter (nB p)).flatMap hR:=by
    rw[<-C];have aq:cur.flatMap hR=(cur.take i).flatMap hR++(cur.drop i).flatMap hR:=by rw[<-ue,mJ]
    rw[aq];exact FM (by rw[gn gi,kv];omega)
   have key:∀F,gK F B 49 2 (.S d 0 i f) i ((cur.flatMap hR).take (i*2))->Ow hR 2 F B 49 (.S d 0 i f) (l.filter (nB p)):=λF h=>by
    unfold Ow;rw[V,<-ap];exact h
   have S:gK J B 49 2 (.S d 0 l.length f) l.length (cur.flatMap hR):=by
    unfold Ow at v;rw[E]at v;exact v
   rw[V]
   by_cases aB:i<l.length
   .refine fA ?_;refine rT i fx fx fx fx fy M fy ?_;refine fA ?_;refine aaB (l:=i) iO fx fU (λu hu=>ld.1 (show([Value.string ⟨#[]⟩,Value.I 0]:ip i6).all (·.oneCell')=true from fx) u hu) S fx fy fy (λF ai af=>?_);refine fA ?_;refine Mo i fx fx fx fx fy fy ?_;refine fA ?_;exact fB fx fx ⟨rfl,key _ ai,m.t af⟩
   .obtain rfl:i=l.length:=fy;refine fA ?_;refine PJ (l:=(l.length:Int)) fx fx fx fy fy M (λay _=>?_);refine fA ?_;refine Xi underlying23 fx (by rw[je];omega) ?_;refine fA ?_;refine Mo l.length fx fx fx fx M fy ?_;refine fA ?_
    exact fB fx fx ⟨rfl,key _ (by
     have e:(cur.flatMap hR).take (l.length*2)=cur.flatMap hR:=p8 (by rw[gn gi,E];omega)
     rw[e];exact S),m⟩
def Gg (w:i5) (B d cN:Nat) (l:ip gG) (n:Nat) (hO:Ow gB 12 w B 37 (.S d 0 l.length cN) l) (ah:l.length<=1000000) (H:n<l.length) (U:∀x∈l,im w x):
  fQ prog 173 #[.S d 0 l.length cN,.I (n:Int),.I ((n:Int)+1)] w λr w'=>r= .S d 0 (l.length-1) cN/\Ow gB 12 w' B 37 r (l.eraseIdx n)/\Fr (· =d) w w':=by
 refine kg func173 fx fE ?_;obtain⟨_,_,e0,g,ag⟩:=hO.form;injection e0 with _ _ e0
 subst e0;have af:gK w B 37 12 (.S d 0 l.length cN) l.length (l.flatMap gB):=hO;have S:(l.eraseIdx n).length=l.length-1:=by rw[K0,if_pos H]
 have R:l.eraseIdx n=l.take n++l.drop (n+1):=QA l n
 repeat' (first|refine ae1 n (n+1) l.length fx fx fx fx fx fx fy fx fy fy g (λv=>?_)|refine fT ?_|fail)
 have Z:((n:Int)+1).toNat=n+1:=fy;have G:=hO.ext (Fr.drew hJ w);have m:=Ow.pre gw G (Qy H);unfold Ow at m;have J:(l.take n).length=n:=by rw[kv];omega
 rw[J]at m;have X:l.flatMap gB=(l.take (n+1)).flatMap gB++(l.drop (n+1)).flatMap gB:=by rw[<-ue,mJ]
 have Y:((l.take (n+1)).flatMap gB).length=(n+1)*12:=by rw[gn gw,kv];omega
 have Q:((l.drop (n+1)).flatMap gB).length=(l.length-(n+1))*12:=by rw[gn gw,lY]
 obtain⟨_,_,f,_,T,_,_,O⟩:=gK.go (show gK w.drew B 37 12 (.S d 0 l.length cN) l.length (l.flatMap gB)from G) fy;injection f with f _ _
 injection f with f
 injection f with f
 subst f;refine abg n fx fx fx fx fy g ?_;refine fA ?_;refine PJ (l:=((n:Int)+1)) fx fx fx fy fy g (λy C=>?_);rw[Z]at C|-
 have W:Row w.drew (.slice y (l.length-(n+1)) (cN-(n+1))) (l.length-(n+1)) ((l.drop (n+1)).flatMap gB):=
  ⟨y,_,rfl,fy,by unfold maxLen;omega,λh0=>⟨d,0+(n+1)*12,C d 0 rfl fy,T,λj u hu=>by
   rw[show 0+(n+1)*12+j=(n+1)*12+j by omega];refine O _ u ?_;rw[X,tk fy,Y,show(n+1)*12+j-(n+1)*12=j by omega]
   exact hu⟩⟩
 have V:∀u∈(l.drop (n+1)).flatMap gB,u.oneCell'=true:=λu hu=>by
  obtain⟨x,aa,hu⟩:=xk.1 hu;exact iC (U x (WW aa)) u hu
 refine fA ?_;refine aee mi fx m fx W Q V fy (λab E L=>?_);have K:Fr (· =d) w ab:=(show Ext w w.drew from Fr.drew hJ w).fr.t L;have I:n+(l.length-(n+1))=l.length-1:=fy;rw[I]at E|-;refine fA ?_;refine aeq (l:=((l.length-1:Nat):Int)) (h:=(l.length:Int)) fx fx fx fx fy fy fy (λae D=>?_);simp only[je]at D|-;obtain rfl:=D d 0 rfl fy;obtain⟨r,N⟩:=gK.grow E (n':=l.length) fy fy;refine fA ?_;refine aaB (l:=l.length-1) mi fx fU (λu hu=>ld.1 (show(gB No).all (·.oneCell')=true from fx) u hu) N fx fy fy (λad F M=>?_)
 have hOr:Ow gB 12 ad B 37 (.S d 0 (l.length-1) cN) (l.eraseIdx n):=by
  unfold Ow;rw[S,R,ue];rw[FM (by rw[ib,gn gw,gn gw,J,lY,<-oA,I])]at F;exact F
 refine fA ?_;exact fB fx fx ⟨rfl,hOr,K.t M⟩
end
section
def aec {f:FuncId} {g:ip i7} {vs:ip i6} (hc:O2 Y g=some vs) (h:xs prog fD fC hs H full K ii ((d,.func (.func f) #[] vs.toArray)::Y) w):
  xs prog fD fC hs H full K (⟨some d,.makeFunc (.func f) #[] g.toArray,R,pos,af,none⟩::ii) Y w:=by
 obtain⟨h1,m⟩:=oh hc;refine gW fx (by simpa[gd,Op.operands]using m) ⟨_,λw'=>?_,h⟩;simp[execOp,Instr.makeFunc,h1]
attribute [local irreducible] xs T
def Ls:i6->Bool
 | .slice .. =>false
 |_=>true
def Rw.Uc {α:Type} {d:α->ip i6} {w':i5} {v:i6} {l:ip α} {t:i9} (h:Rw d w v l) (hc:∀x,∃u r,d x=u::r/\Ls u=true) (B:fW w g t cs) (D:∀u∈cs.toList,Ls u=false) (f:Fr (· =g) w w'):Rw d w' v l:=by
 obtain⟨A,c,rfl,h1,y,h3⟩:=h;refine⟨A,c,rfl,h1,y,λh0=>?_⟩;obtain⟨b,o,rfl,C,m⟩:=h3 h0
 have E:¬b=g:=λe=>by
  subst e;cases l with
  |nil=>simp at h0
  | cons x r=>
   obtain⟨u,q,hu,n⟩:=hc x;have:=m 0 u (by rw[tu,hu];rfl);rw[B.cell]at this
   have hm:u∈cs.toList:=by
    rw[<-Hr]at this;exact jT this
   rw[D u hm]at n;cases n
 exact⟨b,o,rfl,BX C f.size,λj u hu=>f.cell (m j u hu) E⟩
def mE.Uc {w w':i5} {ve vn:i6} {l:ip gG} {t:fZ} {g:Nat} {R:i9} {cs:Array i6} (h:mE w ve vn l t) (f:fW w g R cs) (x:∀u∈cs.toList,Ls u=false) (v:Fr (· =g) w w'):mE w' ve vn l t:=
 ⟨h.e.Uc (λ_=>⟨_,_,rfl,rfl⟩) f x v,h.n.Uc (λ_=>⟨_,_,rfl,rfl⟩) f x v,λy B=>⟨(h.i y B).a.Uc (λ_=>⟨_,_,rfl,rfl⟩) f x v,(h.i y B).c.Uc (λ_=>⟨_,_,rfl,rfl⟩) f x v,(h.i y B).d.Uc (λ_=>⟨_,_,rfl,rfl⟩) f x v⟩,h.m⟩
def EX (A B:Option Addr) (n c n' d:Nat):∀u∈(#[Value.slice A n c,Value.slice B n' d]).toList,Ls u=false:=λu hu=>by
 simp only[iu,tf,or_false]at hu;rcases hu with rfl|rfl<;>rfl
def VW (t:fZ) (ic:ip fL) (w:i5) (r:i6) (w':i5):Prop:=Ext w w'/\match tL t ic with
 |(none,e)=>r= .tuple #[.agg #[.slice none 0 0,.slice none 0 0],.I e]
 |(some t',e)=>∃ve vn fO,r= .tuple #[.agg #[ve,vn],.I e]/\mE w' ve vn fO t'
def Pu (h:gM t=false):tL t ic=(none,1):=by unfold tL;rw[if_neg (by rw[h];decide)]
def Om {q:fL} (h:gM t=true) (hq:q∈ic) (g:∀e∈t.es,e.path≠q):tL t ic=(none,7):=by
 unfold tL;rw[if_pos h,if_neg];intro f;have:=ld.1 f q hq;cases d:fK t.es q with
 |none=>rw[d]at this;cases this
 |some k=>
  obtain⟨e,he,m,_⟩:=gT d;exact g e he m
def NS (h:gM t=true) (f:∀q∈ic,∃e∈t.es,e.path=q):tL t ic=match hQ ⟨t.es.filter (λe=>jK ic e.path),t.ns⟩with
  |some u=>(some u,0)
  |none=>(none,1):=by
 have d:(ic.all λq=>(fK t.es q).isSome)=true:=by
  rw[ld];intro q hq;obtain⟨e,he,m⟩:=f q hq;cases g:fK t.es q with
  |none=>exact absurd m (mU g e he)
  |some k=>rfl
 unfold tL;rw[if_pos h,if_pos d];rfl
end
section
def tJ (m:hA) (t:fZ) (p q:fL):Int:=
 if(gj m).2.1≠0 then(gj m).2.1 else if(hD t q).2≠0 then(hD t q).2 else if(nodeAt t (hD t q).1).kind=1 then 8 else if jf t p≠0 then jf t p else tB t p
def pW (m:hA) (t:fZ) (p q:fL):fZ:=if tJ m t p q=0 then tW t p (hD t q).1 (gj m).2.2.calls else t
def nr (m:hA) (t:fZ) (p:fL) (e:Nd->Int) (d:Nd->Nd):Int:=
 if(gj m).2.1≠0 then(gj m).2.1 else if(hD t p).2≠0 then(hD t p).2 else if e (nodeAt t (hD t p).1)≠0 then e (nodeAt t (hD t p).1)else if hd (d (nodeAt t (hD t p).1))=false then 1 else 0
def nL (m:hA) (t:fZ) (p:fL) (e:Nd->Int) (d:Nd->Nd):fZ:=if nr m t p e d=0 then⟨t.es,t.ns.set (hD t p).1.toNat (d (nodeAt t (hD t p).1))⟩else t
def EdC (w0:i5) (B g:Nat) (m:FuncId) (cap:Array i6) (e:Nd->Int) (d:Nd->Nd):Prop:=∀(w:i5) (b:Nat) (y:gG),Fr (· =g) w0 w->w0.heap.size<=b->fW w b 37 (gB y).toArray->rj w B y->
 fQ prog m (#[.P b]++cap) w λr w'=>∃f,r= .I (e y.n)/\(e y.n=0->f.n=d y.n)/\fW w' b 37 (gB f).toArray/\(e y.n=0->rj w' B f)/\(∀b',NdB f b'->NdB y b'\/w.heap.size<=b')/\Fr (· =b) w w'
attribute [local irreducible] xs T
def OL (w:i5) (B g:Nat) (m:hA) (vf ve vn:i6) (fO:ip gG) (t:fZ) (p q:fL) (h:nJ w B g m vf ve vn fO t) (hc:0<=m.calls/\m.calls<=4000000000000000000) (S:t.es.length<=900000):
  fQ prog 69 #[.P g,.U p,.U q] w λr w'=>r= .I (tJ m t p q)/\∃W V,iY w B g vf ve vn fO w' (gj m).2.2 (pW m t p q) W vn V:=by
 refine kg func69 fx fE ?_;have hlen:=h.i.tr.len;obtain⟨A,c,rfl,ad,ag,_⟩:=h.i.tr.e.op gi;obtain⟨aa,I,rfl,ae,ah,J⟩:=h.i.tr.n.op gw;refine fA ?_;refine fI fx fx (lM w g m vf _ A _ c h.i.k h.i.h h.i.f hc h.i.af) ?_;rintro r X ⟨rfl,K,x⟩;have H:=h.i.put x K (iW m);have C:=iY.put h x H (iW m);unfold pW tJ
 by_cases e:(gj m).2.1=0
 .rw [if_neg (λh=>h e),e];refine fA ?_;refine fI fx fx (nq X g _ vf _ _ fO t q H) ?_;rintro r E ⟨rfl,G⟩;have d:=C.t (iY.ext C.o G)
  by_cases u:(hD t q).2=0
  .rw[if_neg (λh=>h u),u];obtain⟨i,hi,R⟩:=find_range h.i.r u;rw[hi];obtain⟨b,o,y,rfl,ab,T,_,Q⟩:=J.at_ (i:=i) fy;have O:b≠g:=h.i.a b (.inr (.inl rfl));have U:nodeAt t (i:Int)=y.n:=by unfold nodeAt;rw[je];exact h.i.tr.getD T
   have k5:gc E g 5 (.S b o fO.length I):=d.o.i.k.cell 5;have ai:gc E b (o+i*12+0) (.I y.n.kind):=(x.te G).cell (Q 0 _ rfl) O;rw[U]
   by_cases hk:y.n.kind=1
   .rw[if_pos hk];refine Rx ?_;exact fB fx fx ⟨rfl,_,_,d⟩
   .rw[if_neg hk];refine Rx ?_;refine fI fx fx (tZ E g _ vf _ _ fO t p d.o.i) ?_;rintro r Y ⟨rfl,L⟩;have v:=d.t (iY.ext d.o L)
    by_cases e4:jf t p=0
    .rw[if_neg (λh=>h e4),e4];refine fA ?_;refine fI fx fx (Db Y g _ vf _ _ fO t p v.o.i) ?_;rintro r Z ⟨rfl,M⟩;have D:=v.t (iY.ext v.o M)
     by_cases F:tB t p=0
     .rw[F,if_pos rfl];refine fA ?_;refine fI fx fx (AW Z B g _ vf _ _ fO t p i D.o R S) ?_;rintro r al ⟨rfl,ak,aj,N⟩;refine fA ?_;exact fB fx fx ⟨rfl,_,_,D.t N⟩
     .rw[if_neg F];refine fA ?_;exact fB fx fx ⟨rfl,_,_,D⟩
    .rw[if_pos e4,if_neg e4];refine fA ?_;exact fB fx fx ⟨rfl,_,_,v⟩
  .rw[if_pos u,if_neg u];refine fA ?_;exact fB fx fx ⟨rfl,_,_,d⟩
 .rw[if_pos e,if_neg e];refine fA ?_;exact fB fx fx ⟨rfl,_,_,C⟩
def rZ (w:i5) (B g:Nat) (m:hA) (vf ve vn:i6) (fO:ip gG) (t:fZ) (p:fL) (Q:FuncId) (cap:Array i6) (ed:Nd->Int) (nd:Nd->Nd) (h:nJ w B g m vf ve vn fO t) (hc:0<=m.calls/\m.calls<=4000000000000000000) (aH:bit qR Q=true) (aG:EdC w B g Q cap ed nd)
  (ax:∀n∈t.ns,ed n=0->GZ (nd n)/\fF (nd n).data<=1000000):
  fQ prog 51 #[.P g,.U p,.func (.func Q) #[] cap] w λr w'=>r= .I (nr m t p ed nd)/\∃aL,iY w B g vf ve vn fO w' (gj m).2.2 (nL m t p ed nd) ve vn aL:=by
 refine kg func51 fx fE ?_;have hlen:=h.i.tr.len;have aR:=h.i.k.lt;obtain⟨A,c,rfl,aO,aP,_⟩:=h.i.tr.e.op gi;refine fA ?_;refine fI fx fx (lM w g m vf _ A _ c h.i.k h.i.h h.i.f hc h.i.af) ?_;rintro r aM ⟨rfl,an,S⟩;have ah:=h.i.put S an (iW m);have U:=iY.put h S ah (iW m);unfold nL nr
 by_cases e:(gj m).2.1=0
 .rw [if_neg (λh=>h e),e];refine fA ?_;refine fI fx fx (nq aM g _ vf _ _ fO t p ah) ?_;rintro r v ⟨rfl,Z⟩;have D:=U.t (iY.ext U.o Z)
  by_cases G:(hD t p).2=0
  .rw [if_neg (λh=>h G),G];obtain⟨i,hi,aU⟩:=find_range h.i.r G;rw[hi,je];obtain⟨C,cN,rfl,aS,aT,aQ,_,aE⟩:=gK.go h.o.n fy;obtain⟨y,K⟩:∃y,fO[i]? =some y:=⟨_,j9 fy⟩;have aJ:nodeAt t (i:Int)=y.n:=by unfold nodeAt;rw[je];exact h.i.tr.getD K
   rw[aJ];have ag:C≠g:=h.i.a C (.inr (.inl rfl));have k5:gc v g 5 (.S C 0 fO.length cN):=D.o.i.k.cell 5;have aj:=D.o.o.i y (jT K);have R:=S.te Z;refine Q6 ?_;refine hV (cs:=gB y) fx fE (λj u hu=>R.cell (aE _ u (flat_get gw K hu)) ag) ?_;refine fA ?_;refine gx (z:= .agg tH) fE (λa0 ao au aY=>?_);refine fA ?_;refine gY ao fx fx fE fx (fJ (l:=gB y) (ld.2 (iC aj.in))) (λal ap av=>?_);have H:Ext v al:=au.trans av λj aI e=>by have:j=v.heap.size:=e;omega
   have aN:=D.t (iY.ext D.o H);have z3:=R.size;refine fA ?_;refine xa (vs:=[.P v.heap.size]) fx fx aH (aG al v.heap.size y (R.te H) z3 ap (aj.ext H)) ?_;rintro r X ⟨O,rfl,aK,Y,aA,aD,aw⟩;have aV:∀b,b=g\/vf.ownBlock=some b\/JA (.slice A t.es.length c) (.S C 0 fO.length cN) fO b->b<v.heap.size:=λb d=>(D.o.gO d).2
   have aa:Ext v X:=H.trans aw λj aI e=>by have:j=v.heap.size:=e;omega
   have V:=D.t (iY.ext D.o aa)
   by_cases F:ed y.n=0
   .rw [if_neg (λh=>h F),F];have ak:=aK F;have ad:=aA F
    have aF:∀j u,(qV O)[j]? =some u->X.cell? ⟨v.heap.size,1+j,none⟩=some u:=λj u hu=>by
     rw[Y.cell,po];rcases j with _|_|_|_|_|_|j
     all_goals first|exact hu|simp[qV]at hu
    refine fA ?_;refine hV (cs:=qV O) fx fE aF ?_;refine fA ?_;refine fI fx fx (vU X O ad.in) ?_;rintro r N ⟨rfl,L⟩;rw[ak];have W:=V.t (iY.ext V.o L);cases aW:hd (nd y.n)with
    |false=>
     rw[if_pos rfl,if_neg fU];refine fA ?_;exact fB fx fx ⟨rfl,_,W⟩
    | true=>
     rw[if_neg fU,if_pos rfl];have M:=Fr.drew hJ N;have E:=W.t (iY.ext W.o M);have aZ:gc N.drew g 5 (.S C 0 fO.length cN):=E.o.i.k.cell 5;have aq:=(Y.ext L).ext M;have ae:=(ad.ext L).ext M;refine fA ?_;refine gR (t:=37) aq fx fx ?_;refine Q6 ?_;refine F8 gw i E.o.o.n fx fx fx fE (iC ae.in) fy (λam aB T=>?_);have ab:Fr (Ep g (.slice A t.es.length c) (.S C 0 fO.length cN)) N.drew am:=T.mono λb _ d=> .inr (.inr (by have:b=C:=d;rw[this];rfl))
     have aX:nd y.n∈t.ns.set i (nd y.n):=List.mem_iff_getElem?.2 ⟨i,by rw[LH fy]⟩;obtain⟨ay,az⟩:=ax y.n (jT (h.i.tr.get K)) F;have ai:∀n∈t.ns.set i (nd y.n),n∈t.ns\/n=nd y.n:=λn I=>x3 I
     have ar:Ext v N.drew:=(aa.t L).t M
     have aC:iY v B g vf (.slice A t.es.length c) (.S C 0 fO.length cN) fO am (gj m).2.2 ⟨t.es,t.ns.set i (nd y.n)⟩ (.slice A t.es.length c) (.S C 0 fO.length cN) (fO.set i O):=
      ⟨E.o.step ab rfl (E.o.i.k.fr T (λe=>ag e.symm)) (E.o.o.e.fr T λb d e=>E.o.o.e.apart E.o.o.n fU d (by have:b=C:=e;rw[this];rfl)) aB
       (λx J=>(x3 J).elim (E.o.o.i x) λe=>by rw[e];exact ae) (by rw[vz,h.o.m,ak]) (by rw[nS];exact h.i.r) h.i.h
       (λn I=>(ai n I).elim (h.i.l n) λe=>by rw[e];exact ay) (λn I=>(ai n I).elim (h.i.s n) λe=>by rw[e];exact az) h.i.le (by rw[nS];exact h.i.ln),ar.fr.t ab,λ_ d=> .inl d,λx J b d=>?_⟩
     .refine fA ?_;exact fB fx fx ⟨rfl,_,D.t aC⟩
     .rcases x3 J with J|rfl
      .exact .inl ⟨x,J,d⟩
      .exact(aD b d).imp (λd=>⟨y,jT K,d⟩) λd=>by have:=H.size;omega
   .rw[if_pos F,if_neg F];refine fA ?_;exact fB fx fx ⟨rfl,_,V⟩
  .rw[if_pos G,if_neg G];refine fA ?_;exact fB fx fx ⟨rfl,_,D⟩
 .rw[if_pos e,if_neg e];refine fA ?_;exact fB fx fx ⟨rfl,_,U⟩
end
section
theorem qD (m:hA):m.calls<=(gj m).2.2.calls/\(gj m).2.2.calls<=m.calls+1:=by
 unfold gj;split
 .exact⟨Ss _,by dsimp only;omega⟩
 .split
  .exact⟨by dsimp only;omega,by dsimp only;omega⟩
  .split<;>exact⟨by dsimp only;omega,by dsimp only;omega⟩
def rj.ne {B b:Nat} {x:gG} {e:i9} (h:rj w B x) (g:fW w b e cs) (h1:68≠e) (m:70≠e) (h3:39≠e) {b':Nat} (f:x.va.ownBlock=some b'\/x.vc.ownBlock=some b'\/x.vd.ownBlock=some b'):b'≠b:=by
 rintro rfl;rcases f with f|f|f
 .obtain⟨c,hc⟩:=h.a.za f;exact hc.Dm g h1 rfl
 .obtain⟨c,hc⟩:=h.c.za f;exact hc.Dm g m rfl
 .obtain⟨c,hc⟩:=h.d.za f;exact hc.Dm g h3 rfl
attribute [local irreducible] xs T
end
section
def ZH {t m:i9} {y:i7} {k:kw} {a b:Int} (f:gh Y x=some (.int k a)) (g:gh Y y=some (.int k b)) (h:xs prog fD fC hs H full K ii ((d,.int k (bits .andNot k a b))::Y) w):
  xs prog fD fC hs H full K (⟨some d,.binOp .andNot t x y m,R,pos,af,none⟩::ii) Y w:=by
 refine jE f g (eqGuard_at_int ..) (λw'=>?_) h;rw[binOp_andNot,intBits_andNot];rfl
def G4 (z:Int):Int:=bits .andNot .i64 z 3584
def pX (a b:Int) (n:Nd):Nd:={n with uid:=a,gid:=b,mode:=if n.kind=1 then n.mode else G4 n.mode}
def rF (a:Int) (n:Nd):Nd:={n with mode:=a}
attribute [local irreducible] xs T
def OQ (w:i5) (b u g:Nat) (y:gG) (f d:Int) (H:fW w b 37 (gB y).toArray) (F:gc w u 0 (.I f)) (G:gc w g 0 (.I d)) (x:¬g=b):
  fQ prog 177 #[.P b,.P u,.P g] w λr w'=>r= .I 0/\fW w' b 37 (gB ⟨pX f d y.n,y.va,y.vc,y.vd⟩).toArray/\Fr (· =b) w w':=by
 refine kg func177 fx fE ?_;have E:=Fr.drew hJ w;have k6:gc w.drew u 0 (.I f):=F;have k7:gc w.drew g 0 (.I d):=G;refine fA ?_;refine lk [8] (λw'=>gc w' g 0 (.I d)) fE (by decide+kernel) k7 ?_;refine HE ?_;refine ir (H.ext E) fx fx fE fx fx (λM I D=>?_) (λw' v=>v.cell k7 x);refine HE ?_;refine ir I fx fx fE fx fx (λB m K=>?_) (λw' v=>v.cell (D.cell k7 x) x);have C:Fr (· =b) w B:=((show Ext w w.drew from E).fr.t D).t K;have q0:gc B b 0 (.I y.n.kind):=m.cell 0;have q1:gc B b 1 (.I y.n.mode):=m.cell 1
 by_cases hk:y.n.kind=1
 .have e:pX f d y.n={y.n with uid:=f,gid:=d}:=by unfold pX;rw[if_pos hk]
  rw[e];refine fA ?_;exact fB fx fx ⟨rfl,m,C⟩
 .have e:pX f d y.n={y.n with uid:=f,gid:=d,mode:=G4 y.n.mode}:=by unfold pX;rw[if_neg hk]
  rw[e]
  repeat' (first|refine ZH fx fx ?_|refine fT ?_|fail)
  refine ir m fx fx fE fx fx (λN J L=>?_);refine fA ?_;exact fB fx fx ⟨rfl,J,C.t L⟩
def JZ (w:i5) (b d:Nat) (y:gG) (f:Int) (g:fW w b 37 (gB y).toArray) (u:gc w d 0 (.I f)):
  fQ prog 182 #[.P b,.P d] w λr w'=>r= .I 0/\fW w' b 37 (gB ⟨rF f y.n,y.va,y.vc,y.vd⟩).toArray/\Fr (· =b) w w':=by
 refine gP func182 fx fE ?_;refine fA ?_;refine ir g fx fx fE fx fx (λv m t=>?_);refine fA ?_;exact fB fx fx ⟨rfl,m,t⟩
def KT (w:i5) (b d:Nat) (y:gG) (f:Int) (g:fW w b 37 (gB y).toArray) (u:gc w d 0 (.I f)):
  fQ prog 52 #[.P b,.P d] w λr w'=>r= .I 0/\fW w' b 37 (gB ⟨gA y.n f,y.va,y.vc,y.vd⟩).toArray/\Fr (· =b) w w':=by
 refine gP func52 fx fE ?_;refine fA ?_;refine ir g fx fx fE fx fx (λv m t=>?_);refine fA ?_;exact fB fx fx ⟨rfl,m,t⟩
def Jl {w0:i5} {B:Nat} {m:FuncId} {cap:Array i6} {d:Nd->Nd} (F:∀n,(d n).attrs=n.attrs/\(d n).acl=n.acl/\(d n).data=n.data)
  (h:∀(w:i5) (b:Nat) (y:gG),Fr (· =g) w0 w->w0.heap.size<=b->fW w b 37 (gB y).toArray->fQ prog m (#[.P b]++cap) w λr w'=>r= .I 0/\fW w' b 37 (gB ⟨d y.n,y.va,y.vc,y.vd⟩).toArray/\Fr (· =b) w w'):EdC w0 B g m cap (λ_=>0) d:=λw b y E G t hO=>by
 refine fQ.mono (h w b y E G t) λr w' ⟨h1,v,h3⟩=>⟨_,h1,λ_=>rfl,v,λ_=>?_,λb' f=> .inl f,h3⟩
 obtain⟨x,C,D⟩:=F y.n;have u:rj w B ⟨d y.n,y.va,y.vc,y.vd⟩:=⟨by rw[x];exact hO.a,by rw[C];exact hO.c,by rw[D];exact hO.d⟩;exact u.fr h3 λb' f=>u.ne t fU fU fU f
def QB (w:i5) (B g:Nat) (m:hA) (vf ve vn:i6) (fO:ip gG) (t:fZ) (p:fL) (f u:Int) (h:nJ w B g m vf ve vn fO t) (hc:0<=m.calls/\m.calls<=4000000000000000000):
  fQ prog 117 #[.P g,.U p,.I f,.I u] w λr w'=>r= .I (nr m t p (λ_=>0) (pX f u))/\∃x,iY w B g vf ve vn fO w' (gj m).2.2 (nL m t p (λ_=>0) (pX f u)) ve vn x:=by
 refine xA func117 fx fE ?_;have N:=h.i.k.lt;refine fA ?_;refine hP fx (λC J E O=>?_);refine fA ?_;refine hP fx (λH K F Q=>?_);have D:Ext w H:=E.t F;have S:=E.size;have k6:=(fW.ext J F);refine BR ?_
 refine fI fx fx (rZ H B g m vf ve vn fO t p 177 #[.P w.heap.size,.P C.heap.size] (λ_=>0) (pX f u) (h.ext D) hc fE
  (Jl (λn=>⟨rfl,rfl,rfl⟩) λw' b y G M I=>OQ w' b w.heap.size C.heap.size y f u I ((k6.fr G (show ¬w.heap.size=g by omega)).cell 0) ((fW.fr K G (show ¬C.heap.size=g by omega)).cell 0) fy)
  (λn v _=>⟨⟨(h.i.l n v).a,(h.i.l n v).c,(h.i.l n v).d⟩,h.i.s n v⟩)) ?_
 rintro r R ⟨rfl,x,L⟩;refine fA ?_;exact fB fx fx ⟨rfl,x,(iY.ext h D).t L⟩
def NO (w:i5) (B g:Nat) (m:hA) (vf ve vn:i6) (fO:ip gG) (t:fZ) (p:fL) (f:Int) (h:nJ w B g m vf ve vn fO t) (hc:0<=m.calls/\m.calls<=4000000000000000000):
  fQ prog 120 #[.P g,.U p,.I f] w λr w'=>r= .I (nr m t p (λ_=>0) (rF f))/\∃v,iY w B g vf ve vn fO w' (gj m).2.2 (nL m t p (λ_=>0) (rF f)) ve vn v:=by
 refine kg func120 fx fE ?_;have I:=h.i.k.lt;refine fA ?_;refine hP fx (λG D x J=>?_);refine BR ?_
 refine fI fx fx (rZ G B g m vf ve vn fO t p 182 #[.P w.heap.size] (λ_=>0) (rF f) (h.ext x) hc fE
  (Jl (λn=>⟨rfl,rfl,rfl⟩) λw' b y E H C=>JZ w' b w.heap.size y f C ((fW.fr D E (show ¬w.heap.size=g by omega)).cell 0))
  (λn u _=>⟨⟨(h.i.l n u).a,(h.i.l n u).c,(h.i.l n u).d⟩,h.i.s n u⟩)) ?_
 rintro r K ⟨rfl,v,F⟩;refine fA ?_;exact fB fx fx ⟨rfl,v,(iY.ext h x).t F⟩
def Du (w:i5) (B g:Nat) (m:hA) (vf ve vn:i6) (fO:ip gG) (t:fZ) (p:fL) (f:Int) (h:nJ w B g m vf ve vn fO t) (hc:0<=m.calls/\m.calls<=4000000000000000000):
  fQ prog 20 #[.P g,.U p,.I f] w λr w'=>r= .I (nr m t p (λ_=>0) (λn=>gA n f))/\∃v,iY w B g vf ve vn fO w' (gj m).2.2 (nL m t p (λ_=>0) (λn=>gA n f)) ve vn v:=by
 refine kg func20 fx fE ?_;have I:=h.i.k.lt;refine fA ?_;refine hP fx (λG D x J=>?_);refine BR ?_
 refine fI fx fx (rZ G B g m vf ve vn fO t p 52 #[.P w.heap.size] (λ_=>0) (λn=>gA n f) (h.ext x) hc fE
  (Jl (λn=>⟨rfl,rfl,rfl⟩) λw' b y E H C=>KT w' b w.heap.size y f C ((fW.fr D E (show ¬w.heap.size=g by omega)).cell 0))
  (λn u _=>⟨⟨(h.i.l n u).a,(h.i.l n u).c,(h.i.l n u).d⟩,h.i.s n u⟩)) ?_
 rintro r K ⟨rfl,v,F⟩;refine fA ?_;exact fB fx fx ⟨rfl,v,(iY.ext h x).t F⟩
end
section
open Wr
attribute [local irreducible] xs T
def Qp (w:i5) (v:i6) (p:mH) (a:Int) (E:Rw qG w v [p]) (h1:0<p.2) (n:p.1+p.2<=1099511627776):fQ prog 103 #[v,.I a] w λr w'=>r= .bool (decide ((p.1:Int)<=a/\a<(p.1:Int)+p.2))/\Ext w w':=by
 refine gP func103 fx fE ?_;refine fA ?_;refine fH fx fx (Bt w v [p] E (λx F=>by rw[jS.1 F];exact⟨h1,n⟩) iB iB) (λr g D=>?_);obtain⟨⟨s,hs,_,hO⟩,f⟩:=D;have hs:s=[p]:=List.perm_singleton.1 hs;subst hs;have y:Ow qG 1 g w.heap.size 157 r [p]:=hO;obtain⟨A,c,rfl,_,_,u⟩:=y.rw.op n0;obtain⟨b,o,q,rfl,_,hq,_,B⟩:=u.at_ (i:=0) iB;obtain rfl:p=q:=by simpa using hq
 have k0:=B 0 _ rfl;rw[oR,kB]at k0;refine fA ?_;refine gC (α:=Nat) (λi=>[(1,.I a),(8,.S b o 1 c),(9,.I 1),(10,.I (i:Int))]) (λi w'=>Ext g w'/\i<=1/\(i=1->¬((p.1:Int)<=a/\a<(p.1:Int)+p.2))) (λi=>1-i) 0 (sub ⟨rfl,rfl,rfl,rfl⟩) ⟨Fr.refl _ _,fy,λh=>absurd h fU⟩ ?_;rintro i m ⟨d,hi,C⟩
 by_cases fY:i<1
 .obtain rfl:i=0:=fy;have k2:=d.cell k0
  repeat' (first|refine kt 0 (o+0) fx fx fx fx fx fy ?_|refine KH fx k2 ?_|refine fT ?_|fail)
  refine fH fx fx (kP m p.1 p.2 fy) (λr G h3=>?_);obtain⟨rfl,rfl⟩:=h3
  by_cases g1:(p.1:Int)<=a
  .refine fA ?_;refine fH fx fx (mS m p.1 p.2 fy fy) (λr G h3=>?_);obtain⟨rfl,rfl⟩:=h3
   by_cases g2:a<(p.1:Int)+p.2
   .refine fA ?_;exact fB fx fx ⟨by rw[decide_eq_true ⟨g1,g2⟩],f.t d⟩
   .refine fA ?_;exact gl ⟨1,sub ⟨rfl,rfl,rfl,rfl⟩,⟨d,fy,λ_ h=>g2 h.2⟩,(by show 1-1<1-0;omega)⟩
  .refine fA ?_;exact gl ⟨1,sub ⟨rfl,rfl,rfl,rfl⟩,⟨d,fy,λ_ h=>g1 h.1⟩,(by show 1-1<1-0;omega)⟩
 .obtain rfl:i=1:=fy;refine fA ?_;exact fB fx fx ⟨by rw[decide_eq_false (C fx)],f.t d⟩
def xK (w:i5) (x:gG) (B:im w x) (y:fF x.n.data<=1000000):fQ prog 96 #[.agg (gB x).toArray] w λr w'=>r= .bool (decide (x.n.kind=2)&&fG x.n)/\Ext w w':=by
 refine gD func96 fx fE ?_;refine fA ?_;refine hP fx (λf u d C=>?_);have g:fW f w.heap.size 37 (gB x).toArray:=u;have q0:gc f w.heap.size 0 (.I x.n.kind):=g.cell 0
 by_cases hk:x.n.kind=2
 .refine fA ?_;refine gR (t:=37) g fx fx ?_;refine fA ?_;refine fH fx fx (nY f x (B.ext d) y) (λr D m=>?_);obtain⟨rfl,v⟩:=m;refine fA ?_;exact fB fx fx ⟨by rw[decide_eq_true hk,iV],d.t v⟩
 .refine fA ?_;exact fB fx fx ⟨by rw[decide_eq_false hk,hW],d⟩
def ub (w:i5) (x:gG) (N:im w x) (J:GZ x.n):fQ prog 97 #[.agg (gB x).toArray] w λr w'=>∃x',r= .agg (gB x').toArray/\rj w' w.heap.size x'/\x'.n=x.n/\Ext w w':=by
 refine gD func97 fx fE ?_;obtain⟨ab,c3,Y,_,_,_⟩:=N.d.op hB;refine fA ?_;refine hP fx (λv ad V aq=>?_);refine fA ?_;refine gx (z:= .agg tH) fE (λK ae M ar=>?_);have Q:fW K w.heap.size 37 (gB x).toArray:=fW.ext ad M;have T:Ext w K:=V.t M
 have ao:∀j u,(qV x)[j]? =some u->K.cell? ⟨w.heap.size,1+j,none⟩=some u:=λj u hu=>by
  rw[Q.cell,po];rcases j with _|_|_|_|_|_|j
  all_goals first|exact hu|simp[qV]at hu
 refine fA ?_;refine hV (cs:=qV x) fx fE ao ?_;have Z:=N.ext T;refine fH fx fx (tM K x Z.a Z.c J.a J.c) (λr au h3=>?_);obtain⟨va,vc,rfl,D,E,H⟩:=h3;obtain⟨F,c1,rfl,_,_⟩:=D.form;obtain⟨G,c2,rfl,_,_⟩:=E.form;have af:=Q.ext H;refine fA ?_
 refine Yd (q:=1) (vs:=qV ⟨x.n,.slice F x.n.attrs.length c1,.slice G x.n.acl.length c2,x.vd⟩) (nw:=(gB ⟨x.n,.slice F x.n.attrs.length c1,.slice G x.n.acl.length c2,x.vd⟩).toArray) af fx fx fE (by show 7<=12;omega) (λu hu=>by
  simp only[qV,iu,tf,or_false]at hu
  rcases hu with rfl|rfl|rfl|rfl|rfl|rfl<;>rfl) rfl (λL R y=>?_)
 have k8:L.cell? ⟨w.heap.size,8,none⟩=some (.slice ab x.n.data.length c3):=by rw[<-Y];exact R.cell 8
 have aw:=V.size;have z2:=M.size;have z3:=H.size;have z4:=y.size;have U:Ext w L:=(T.t H).trans y λj X e=>by have:j=w.heap.size:=e;omega
 have W:=N.d.ext U;rw[Y]at W;refine fA ?_;refine jH (B:=L.heap.size) (news:=x.n.data.flatMap kc) ks fx fU fx (gK.nil _ _ _ _) fx W (gn hB _) (mh _) (by have:=J.d;unfold maxLen;omega) (by have:=J.d;omega) (gJ _) (λv5 ap C aj _=>?_);have g:Ext L ap:=aj.mono λ_ _ h=>by cases h
 rw[iM]at C;obtain⟨O,d3,rfl,_,_⟩:=C.form;refine fA ?_;refine ir (fW.ext R g) fx fx fE fx fx (λaa S m=>?_)
 have ag:fW aa w.heap.size 37 (gB ⟨x.n,.slice F x.n.attrs.length c1,.slice G x.n.acl.length c2,.slice O x.n.data.length d3⟩).toArray:=by
  simp only[iM]at S;exact S
 have z5:=g.size;have ax:=m.size;have ai:Ext w aa:=(U.t g).trans m λj X e=>by have:j=w.heap.size:=e;omega
 refine fA ?_;refine gR (t:=37) ag fx fx ?_;have an:=((fW.ext ae H).fr y (show ¬v.heap.size=w.heap.size by omega)).ext g|>.fr m (show ¬v.heap.size=w.heap.size by omega)
 refine fA ?_;refine gY an fx fx fE fx (fJ (l:=gB ⟨x.n,.slice F x.n.attrs.length c1,.slice G x.n.acl.length c2,.slice O x.n.data.length d3⟩) fx) (λav ah I=>?_);have ak:=(((D.fr y λb f=>by have:=(D.gO f).1;show ¬b=w.heap.size;omega).ext g).fr m λb f=>by have:=(D.gO f).1;show ¬b=w.heap.size;omega).fr I λb f=>by have:=(D.gO f).1;show ¬b=v.heap.size;omega
 have al:=(((E.fr y λb f=>by have:=(E.gO f).1;show ¬b=w.heap.size;omega).ext g).fr m λb f=>by have:=(E.gO f).1;show ¬b=w.heap.size;omega).fr I λb f=>by have:=(E.gO f).1;show ¬b=v.heap.size;omega
 have am:=(C.fr m λb f=>by have:=(C.gO f).1;show ¬b=w.heap.size;omega).fr I λb f=>by have:=(C.gO f).1;show ¬b=v.heap.size;omega
 refine fA ?_;exact CP fx fx ah fE ⟨_,rfl,⟨ak.mono fy,al.mono fy,gK.mono am fy⟩,rfl,ai.trans I λj X e=>by have:j=v.heap.size:=e;omega⟩
end
section
open Wr
def sd (l:fL):ip i6:=l.map λx=> .int .u8 (x.toNat:Int)
def sR (l:fL):(sd l).length=l.length:=by simp[sd]
def UA (l:fL):∀u∈sd l,u.oneCell'=true:=λu hu=>by
 obtain⟨x,_,rfl⟩:=lp.1 hu;rfl
def T6 (r:fL) (k:Nat) (d:fL) (hk:k<=r.length):(sd r).take k++sd (d.take (r.length-k))++(sd r).drop (k+(d.take (r.length-k)).length)=sd (vk r k d):=by
 have e:sd (vk r k d)=(sd r).take k++sd (d.take (r.length-k))++(sd r).drop (k+d.length):=by unfold sd vk;simp only[pw,CN,Ru]
 rw[e]
 congr 1
 rw[kv]
 by_cases h:r.length-k<=d.length
 .rw[tD h,zi (by rw[sR];omega),zi (by rw[sR];omega)]
 .rw[Nat.min_eq_right fy]
def HA (n:Nat):(Array.replicate n (Value.int .u8 0))=(sd (List.replicate n 0)).toArray:=by
 unfold sd;rw[ME];simp
def Qu:x4 86 5 (.int .u8 0) 1 1:=Nq underlying86 fE
def UR (l:fL):strOfNums (l.map λx=>(x.toNat:Int))=su l:=by
 unfold strOfNums su;rw[rN]
 congr 2
 conv=>rhs;rw[<-List.map_id l]
 exact x5 λx _=>by simp
section
variable {dst:Option Tmp}
def afz {E:i9} {k n c:Nat} {r s:fL} {y:i7} (m:fW w g 5 (sd r).toArray) (C:gh Y x=some (.S g k n c)) (D:gh Y y=some (.U s)) (f:n=r.length-k) (hk:k<=r.length)
  (h:∀w',fW w' g 5 (sd (vk r k s)).toArray->Fr (· =g) w w'->xs prog fD fC hs H full K ii (put Y dst (goInt (min s.length n))) w') (hH:∀w',Fr (· =g) w w'->H w':=by intros;trivial):
  xs prog fD fC hs H full K (⟨dst,.call {callee:= .builtin .copy,args:=⟨[x,y]⟩,argTypes:=⟨[86,E]⟩},R,pos,af,none⟩::ii) Y w:=by
 obtain⟨hu,i,hi,S,qf1,Q⟩:=Qu;obtain⟨cs,d⟩:∃cs,cs=sd (s.take (r.length-k)):=⟨_,rfl⟩;have I:cs.length=min s.length n:=by rw[d,sR,kv,f];omega
 have t:=run_storeCells_at (P:=prog) g k 5 cs 0 (sd r).toArray w m (by rw[kB,I,nK,sR];omega) (d▸UA _);rw[kB]at t;have B:=T6 r k s hk;have hle:(s.take (r.length-k)).length=cs.length:=by rw[d,sR]
 rw[<-d,hle]at B;have L:((sd r).toArray.toList.take k++cs++(sd r).toArray.toList.drop (k+cs.length)).toArray=(sd (vk r k s)).toArray:=by rw[<-B]
 rw[L]at t;have u:Fr (· =g) w (w.setRow g (sd (vk r k s)).toArray):=⟨rfl,rfl,rfl,by simp[World.setRow],λk hk f=>by simp only[World.setRow,tP];rw[if_neg (λe=>f e.symm)]⟩
 have F:fW (w.setRow g (sd (vk r k s)).toArray) g 5 (sd (vk r k s)).toArray:=by
  unfold fW at m|-;simp[World.setRow,tP,m]
 have O:List.take (min s.length n) (List.map (λb:UInt8=>Value.int IntKind.u8 (b.toNat:Int)) s)=cs:=by
  rw[d,f];unfold sd;rw[CN]
  by_cases h:r.length-k<=s.length
  .rw[Nat.min_eq_right h]
  .rw[tD fy,p8 (by rw[jv];exact gJ _),p8 (by rw[jv];omega)]
 have J:Nat.min s.length n=min s.length n:=rfl;have N:(su s).size=s.length:=ky s;have G:(su s).data.toList=s:=by simp[su]
 have M:(Builtin.copy_ #[86,E] R #[.S g k n c,.U s]).run prog w= .ok (goInt (min s.length n)) (w.setRow g (sd (vk r k s)).toArray):=by
  simp only[Builtin.copy_,Builtin.lenOf,Builtin.firstCells];simp[run_underlying hu,sizeOf,typeInfo,hi,J,N,G];rw[O,t];simp[Result.andThen]
  congr 1;omega
 refine xw (v:=goInt (min s.length n)) (w':=w.setRow g (sd (vk r k s)).toArray) (by simp[gd,Op.operands,Call.operands,C,D]) fx ?_ (h _ F u) (hH _ u);simp[execOp,resolve,invoke,builtin,fR C,fR D,M]
def aaj {v:i6} (f:gh Y x=some (.agg cs)) (m:cs[8]? =some v)
  (h:xs prog fD fC hs H full K ii ((d,v)::Y) w):xs prog fD fC hs H full K (⟨some d,.field 37 x 3,R,pos,af,none⟩::ii) Y w:=by
 refine gW fx (by simp[gd,Op.operands,f]) ⟨v,λw'=>?_,h⟩
 have g:(isAgg 35).run prog w'= .ok false w':=by
  unfold isAgg;simp only[tg,run_underlying underlying35,tp];simp
 simp[execOp,fR f,Instr.field,run_underlying underlying37,asAgg,part,g,m]
def abS {n:Nat} {r:fL} (f:fW w g 5 (sd r).toArray) (u:gh Y x=some (.S g 0 n n)) (t:n=r.length) (hm:n<=maxLen)
  (h:xs prog fD fC hs H full K ii ((d,.U r)::Y) w) (m:n4 hs (some d)=false:=by rfl):xs prog fD fC hs H full K (⟨some d,.convert 86 9 x,R,pos,af,none⟩::ii) Y w:=by
 refine afl (zs:=r.map λx=>(x.toNat:Int)) u ?_ (by rw[UR];exact h) m;unfold XL;rw[rN,jv,<-t];exact gQ f hm (by simp[sd])
