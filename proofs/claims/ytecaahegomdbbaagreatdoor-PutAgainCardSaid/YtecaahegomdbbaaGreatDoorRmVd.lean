/- Parts of the proof. -/
import Derived.Test.YtecaahegomdbbaaGreatDoorRmB9b
set_option linter.all false
set_option maxRecDepth 99999
set_option maxHeartbeats 0
namespace Go.Proofs.YtecaahegomdbbaaGreatDoor.gr
open Go.Proofs.Tryz
open Go.RowKit
section
def nI (n:Int) (e:En):En:=if n<e.node then⟨e.path,e.node-1⟩else e
theorem lT (n:Int) (e:En):(nI n e).path=e.path:=by grind [nI]
def vZ (p:fL) (e:En):Bool:=decide (e.path=p)
def pJ (m:hA) (t:fZ) (p:fL):Int:=
 if(gj m).2.1≠0 then(gj m).2.1 else if(hD t p).2≠0 then(hD t p).2 else if p=[]then 1 else if 0<(lV t p).length then 10 else 0
def uF (t:fZ) (p:fL) (k:Int):fZ:=
 if(qo t p).length=1 then⟨(t.es.filter (nB (vZ p))).map (nI k),t.ns.eraseIdx k.toNat⟩else⟨t.es.filter (nB (vZ p)),t.ns⟩
def nM (m:hA) (t:fZ) (p:fL):fZ:=if pJ m t p=0 then j8 (uF t p (hD t p).1) p (gj m).2.2.calls else t
def Sa {α:Type} (f:α->α) {l:ip α} {i:Nat} {x:α} (h:l[i]? =some x):((l.take i).map f++l.drop i).set i (f x)=(l.take (i+1)).map f++l.drop (i+1):=by
 have hi:=(jR.1 h).1;have d:l.drop i=x::l.drop (i+1):=by rw[<-(jR.1 h).2];exact Fq hi
 have g:((l.take i).map f).length=i:=by rw[jv,kv];omega
 rw[d,Lz _ _ fy,g,HD,Qa,j2,h,pw,kF];rfl
def Vt {α:Type} (f:α->α) {l:ip α} {i:Nat} {x:α} (h:l[i]? =some x):((l.take i).map f++l.drop i)[i]? =some x:=by
 grind
attribute [local irreducible] xs T
structure DrI (w0:World) (B g gE cE gN cN:Nat) (m:hA) (vf:Value) (fO:List gG) (es:List En) (n:Nat) (nl:Nat) (i:Nat) (w:World):Prop where
 f:Fr (Ep g (.S gE 0 es.length cE) (.S gN 0 nl cN)) w0 w
 k:fW w g 88 (J4 m vf (.S gE 0 es.length cE) (.S gN 0 (nl-1) cN))
 e:Ow hR 2 w B 49 (.S gE 0 es.length cE) ((es.take i).map (nI n)++es.drop i)
 n:Ow gB 12 w B 37 (.S gN 0 (nl-1) cN) (fO.eraseIdx n)
 i:i<=es.length
def Oa (w:i5) (B g:Nat) (m:hA) (vf ve vn:i6) (fO:ip gG) (t:fZ) (n:Nat) (h:nJ w B g m vf ve vn fO t) (ab:n<t.ns.length) (af:∀e∈t.es,e.node≠n):
  fQ prog 113 #[.P g,.I (n:Int)] w λr w'=>r= .tuple #[]/\∃ah ag,iY w B g vf ve vn fO w' m ⟨t.es.map (nI n),t.ns.eraseIdx n⟩ ve ah ag:=by
 refine gP func113 fx fE ?_;have hlen:=h.i.tr.len;have h0:=h.i.h;have hle:=h.i.le;have ar:=h.i.ln;obtain⟨u,F,rfl,an,ao,ai,aj,_⟩:=gK.go h.o.e fy;obtain⟨v,cN,rfl,ap,aq,ak,al,_⟩:=gK.go h.o.n fy;have Z:u≠g:=h.i.a u (.inl rfl);have aa:v≠g:=h.i.a v (.inr (.inl rfl));have Q:u≠v:=λe=>h.o.e.apart h.o.n fU rfl (by rw[e];rfl)
 refine iq (α:=Nat) 0 fx (λi=>[(0,.P g),(1,.I (n:Int)),(4,.I (i:Int))]) (DrI w B g u F v cN m vf fO t.es n fO.length) (λi=>t.es.length-i) ?_ ?_
 .rintro i I ⟨y,E,G,L,hi⟩;have k4:gc I g 4 (.S u 0 t.es.length F):=E.cell 4
  by_cases fY:i<t.es.length
  .obtain⟨x,f⟩:∃x,t.es[i]? =some x:=lX;have T:=jT f;have av:=h.i.r x T;have au:=af x T;have M:=Vt (nI (n:Int)) f;have K:=Sa (nI (n:Int)) f;obtain⟨_,_,C,_,_,_,_,X⟩:=gK.go G fM;injection C with C _ _
   injection C with C
   injection C with C
   subst C;have q1:gc I u (i*2+1) (.I x.node):=X _ _ (flat_get gi M rfl)
   by_cases R:(n:Int)<x.node
   .have J:nI (n:Int) x=⟨x.path,x.node-1⟩:=by unfold nI;rw[if_pos R]
    rw[J]at K
    repeat' (first|refine gH i (i*2) fx fx fx fx fy fY ?_|refine fT ?_|fail)
    refine Xz gi i 1 G fx fx fy fy fE fx M (show hR ⟨x.path,x.node-1⟩=(hR x).set 1 (.I (x.node-1))from fx) (λN O D=>?_);rw[K]at O;refine fA ?_;exact hy fx ⟨_,by dsimp only;omega,rfl,i+1,sub ⟨rfl,rfl,rfl⟩,⟨y.t (D.mono λb _ d=> .inr (.inl (by have:b=u:=d;rw[this];rfl))),E.fr D (λe=>Z e.symm),O,L.fr D λb d e=>Q (by have h1:v=b:=jb d;omega),fY⟩,rfl⟩
   .have J:nI (n:Int) x=x:=by unfold nI;rw[if_neg R]
    rw[J,tF M]at K
    repeat' (first|refine gH i (i*2) fx fx fx fx fy fY ?_|refine fT ?_|fail)
    exact hy fx ⟨_,by dsimp only;omega,rfl,i+1,sub ⟨rfl,rfl,rfl⟩,⟨y,E,by grind,L,fY⟩,rfl⟩
  .obtain rfl:i=t.es.length:=fy;rw[kh,jP,mR]at G;have Y:(fO.eraseIdx n).map (·.n)=t.ns.eraseIdx n:=by rw[<-h.o.m,QA,QA,pw,CN,Ru]
   have ae:(t.ns.eraseIdx n).length=t.ns.length-1:=by rw[K0,if_pos ab]
   have S:∀x∈t.ns.eraseIdx n,x∈t.ns:=λx f=>R4 f
   have key:iY w B g vf (.S u 0 t.es.length F) (.S v 0 fO.length cN) fO I m ⟨t.es.map (nI n),t.ns.eraseIdx n⟩ (.S u 0 t.es.length F) (.S v 0 (fO.length-1) cN) (fO.eraseIdx n):=
    ⟨h.step y rfl E G L (λx f=>h.o.i x (R4 f)) Y (λe he=>by
     obtain⟨x,f,rfl⟩:=lp.1 he;have h1:=h.i.r x f
     grind [nI]) fM (λx f=>h.i.l x (S x f)) (λx f=>h.i.s x (S x f)) fM (by rw[ae];omega),y,λb d=>by
      rcases d with d|d|d
      .exact .inl (.inl d)
      .exact .inl (.inr (.inl d))
      .exact .inl (.inr (.inr d)),by grind [List.mem_of_mem_eraseIdx]⟩
   refine fA ?_;refine WQ ?_;exact mr fx ⟨rfl,_,_,key⟩
 .intro H;have k5:gc w g 5 (.S v 0 fO.length cN):=h.i.k.cell 5;refine fA ?_;refine fI fx fx (Gg w B v cN fO n h.o.n fy fy λx f=>(h.o.i x f).in) ?_;rintro r I ⟨rfl,W,y⟩;have E:=h.i.k.fr y (λe=>aa e.symm);refine fA ?_;refine ir E fx fx fE fx fx (λN U D=>?_);have V:Fr (Ep g (.S u 0 t.es.length F) (.S v 0 fO.length cN)) w N:=(y.mono λb _ d=> .inr (.inr (by have:b=v:=d;rw[this];rfl))).t (D.mono λb _ d=> .inl d);have am:=(h.o.e.fr y λb d e=>Q (by have h1:u=b:=jb d;omega)).fr D λb d=>by have h1:u=b:=jb d;omega
  have ad:=W.fr D λb d=>by have h1:v=b:=jb d;omega
  refine fA ?_;refine hI ?_;exact iw (H 0 N ⟨V,U,by grind,ad,iF _⟩) (sub ⟨rfl,rfl,rfl⟩)
def AB (w:i5) (e:En) (g3:Nat) (p:fL) (h3:gc w g3 0 (.U p)):fQ prog 112 #[.agg (hR e).toArray,.P g3] w λr w'=>r= .bool (vZ p e)/\Ext w w':=by
 refine gP func112 fx fE ?_;refine fA ?_;refine hP fx (λf g d m=>?_);have k0:gc f w.heap.size 0 (.U e.path):=fW.cell g 0;have k3:gc f g3 0 (.U p):=d.cell h3
 repeat' (first|refine gk (op:= .eql) fx fx fx ?_|refine fT ?_|fail)
 exact UF
def OW (w:i5) (g:Nat) (m:hA) (vf ve vn:i6) (fO:ip gG) (t:fZ) (h:Bx w g m vf ve vn fO t):fQ prog 15 #[.P g] w λr w'=>r= .I (gf t.ns:Int)/\Ext w w':=by
 refine gD func15 fx fE ?_;refine fA ?_;refine hV (cs:=[ve,vn]) fx fE (pd h.k) ?_;refine fA ?_;refine fI fx fx (xr w _ _ fO t h.tr h.s h.ln) ?_;rintro r f ⟨rfl,d⟩;refine fA ?_;exact UF
def CL (w:i5) (B g:Nat) (m:hA) (vf ve vn:i6) (fO:ip gG) (t:fZ) (p:fL) (h:nJ w B g m vf ve vn fO t) (hc:0<=m.calls/\m.calls<=4000000000000000000) (aN:∃e∈t.es,e.path=[]):
  fQ prog 64 #[.P g,.U p] w λr w'=>r= .I (pJ m t p)/\∃aT aU aQ,iY w B g vf ve vn fO w' (gj m).2.2 (nM m t p) aT aU aQ:=by
 refine gP func64 fx fE ?_;have hlen:=h.i.tr.len;have a6:=h.i.k.lt;have h0:=h.i.h;have hle:=h.i.le;obtain⟨d,v,rfl,a7,a8,a3,a4,_⟩:=gK.go h.o.e fy;have aw:d≠g:=h.i.a d (.inl rfl);refine fA ?_;refine hP fx (λay aB aj bb=>?_);have aC:fW ay w.heap.size 9 #[.U p]:=aB;have h1:=h.ext aj;refine fA ?_;refine fI fx fx (lM ay g m vf _ _ _ v h1.i.k h1.i.h h1.i.f hc h1.i.af) ?_;rintro r az ⟨rfl,aD,W⟩;have ax:=h1.i.put W aD (iW m);have X:=(iY.ext h aj).t (iY.put h1 W ax (iW m));have ag:=aC.fr W fy;unfold nM pJ
 by_cases e:(gj m).2.1=0
 .rw [if_neg (λh=>h e),e];have k3:gc az w.heap.size 0 (.U p):=ag.cell 0;refine fA ?_;refine fI fx fx (nq az g _ vf _ _ fO t p ax) ?_;rintro r T ⟨rfl,ak⟩;have Q:=X.t (iY.ext X.o ak);have ah:=ag.ext ak
  by_cases I:(hD t p).2=0
  .rw [if_neg (λh=>h I),I];obtain⟨i,hi,aJ⟩:=find_range h.i.r I;rw[hi];have aO:gc T w.heap.size 0 (.U p):=ah.cell 0
   by_cases O:p=[]
   .rw[if_pos O]
    repeat' (first|refine gk (op:= .eql) (b:=[]) (r:=true) fx fx (by simp[hG,O]) ?_|refine fT ?_|fail)
    exact fB fx fx ⟨rfl,_,_,_,Q⟩
   .rw [if_neg O];have aq:=Fr.drew hJ T;have R:=Q.t (iY.ext Q.o aq);have bc:gc T.drew w.heap.size 0 (.U p):=aO
    repeat' (first|refine gk (op:= .eql) (b:=[]) (r:=false) fx fx (by simp[hG,O]) ?_|refine fT ?_|fail)
    refine hV (cs:=[.S d 0 t.es.length v,vn]) fx fE (pd R.o.i.k) ?_;refine fA ?_;refine fI fx fx (NC T.drew _ _ t p R.o.i.tr.e h.i.le) ?_;rintro r ae ⟨aF,al⟩;obtain⟨aW,c4,rfl,_,_⟩:=aF.form;have Y:=R.t (iY.ext R.o al);have aE:=(ah.ext aq).ext al
    by_cases hk:0<(lV t p).length
    .rw[if_pos hk];refine fA ?_;exact fB fx fx ⟨rfl,_,_,_,Y⟩
    .rw[if_neg hk,if_pos rfl];have ar:=Fr.drew hJ ae;have S:=Y.t (iY.ext Y.o ar);have ai:=aE.ext ar;have be:gc ae.drew w.heap.size 0 (.U p):=ai.cell 0;refine fA ?_;refine hV (cs:=[.S d 0 t.es.length v,vn]) fx fE (pd S.o.i.k) ?_;refine fA ?_;refine fI fx fx (Jg ae.drew _ _ t p S.o.i.tr.e h.i.le) ?_;rintro r H ⟨aG,am⟩;obtain⟨aX,c5,rfl,_,_⟩:=aG.form;have y:=S.t (iY.ext S.o am);have M:=ai.ext am;have ao:=y.o.o.e;have a9:=(y.o.o.e.gO rfl).2;have bd:gc H g 4 (.S d 0 t.es.length v):=y.o.i.k.cell 4;have a2:w.heap.size<H.heap.size:=M.lt
     have ap:¬Ep g (.S d 0 t.es.length v) vn w.heap.size:=λJ=>by
      rcases J with J|J|J
      .omega
      .have:d=w.heap.size:=jb J;omega
      .have:=(h.o.n.gO J).2;omega
     have av:∀e∈t.es.filter (nB (vZ p)),e∈t.es/\e.path≠p:=by grind [nB, vZ]
     have aL:0<(t.es.filter (nB (vZ p))).length:=by
      obtain⟨e,he,aI⟩:=aN;refine WZ (a:=e) (DW.2 ⟨he,?_⟩);unfold nB vZ;simp[aI,uG O]
     have ba:(t.es.filter (nB (vZ p))).length<=t.es.length:=fM
     have core:∀E C,Ow hR 2 E B 49 (.S d 0 (t.es.filter (nB (vZ p))).length v) (t.es.filter (nB (vZ p)))->Fr (· =d) H E->fW C g 88 (J4 (gj m).2.2 vf (.S d 0 (t.es.filter (nB (vZ p))).length v) vn)->Fr (· =g) E C->iY H B g vf (.S d 0 t.es.length v) vn fO C (gj m).2.2 ⟨t.es.filter (nB (vZ p)),t.ns⟩ (.S d 0 (t.es.filter (nB (vZ p))).length v) vn fO:=λE C N D L F=>by
      have an:Fr (Ep g (.S d 0 t.es.length v) vn) H C:=(D.mono λb _ u=> .inr (.inl (by have:b=d:=u;rw[this];rfl))).t (F.mono λb _ u=> .inl u);have aK:=(y.o.o.n.fr D λb u e=>y.o.o.n.apart y.o.o.e fU u (by have:b=d:=e;rw[this];rfl)).fr F λb u=>h.i.a b (.inr (.inl u))
      exact⟨y.o.step an fx L (N.fr F λb u=>by have h1:d=b:=jb u;omega) aK y.o.o.i h.o.m (λe he=>h.i.r e (av e he).1) aL h.i.l h.i.s fy h.i.ln,an,λb u=>by
       rcases u with u|u|u
       .exact .inl (.inl u)
       .exact .inl (.inr (.inl u))
       .exact .inl (.inr (.inr u)),fM⟩
     have au:fK t.es p=some (i:Int):=by
      unfold hD at hi I
      by_cases h0:jf t p=0
      .grind
      .grind
     by_cases G:(qo t p).length=1
     .have ad:uF t p (i:Int)=⟨(t.es.filter (nB (vZ p))).map (nI (i:Int)),t.ns.eraseIdx i⟩:=by unfold uF;rw[if_pos G,je]
      have aM:∀e∈t.es.filter (nB (vZ p)),e.node≠(i:Int):=λe he a5=>by
       obtain⟨h1,aY⟩:=av e he;obtain⟨e0,h3,aZ,a0⟩:=gT au;unfold qo at G;rw[au]at G;dsimp only at G;rw[jv]at G;obtain⟨a,a1⟩:=CZ.1 G;have m1:e∈t.es.filter λe=>decide (e.node=(i:Int)):=fM
       have m0:e0∈t.es.filter λe=>decide (e.node=(i:Int)):=fM
       grind
      refine BR ?_;refine fI fx fx (qJ H B d v t.es 112 #[.P w.heap.size] (vZ p) ao h.i.le h0 fE (λw' V x _=>AB w' x w.heap.size p ((M.fr V fy).cell 0))) ?_;rintro r E ⟨rfl,N,D⟩;have ab:=y.o.i.k.fr D (λe=>aw e.symm);refine fA ?_;refine ir ab fx fx fE fx fx (λC L F=>?_);have K:=core E C N D L F;refine fA ?_;refine fI fx fx (Oa C B g _ vf _ _ fO _ i K.o aJ aM) ?_;rintro r aA ⟨rfl,bf,aR,aH⟩;have Z:=K.t aH;have U:=M.fr Z.f ap;have aP:gc aA w.heap.size 0 (.U p):=U.cell 0;refine fA ?_;refine fI fx fx (uo aA B g _ vf _ _ aR _ p Z.o) ?_;rintro r aV ⟨rfl,aS,aa⟩;rw[ad];refine fA ?_;exact fB fx fx ⟨rfl,_,_,_,y.t (Z.t aa)⟩
     .have ad:uF t p (i:Int)=⟨t.es.filter (nB (vZ p)),t.ns⟩:=by unfold uF;rw[if_neg G]
      refine BR ?_;refine fI fx fx (qJ H B d v t.es 112 #[.P w.heap.size] (vZ p) ao h.i.le h0 fE (λw' V x _=>AB w' x w.heap.size p ((M.fr V fy).cell 0))) ?_;rintro r E ⟨rfl,N,D⟩;have ab:=y.o.i.k.fr D (λe=>aw e.symm);refine fA ?_;refine ir ab fx fx fE fx fx (λC L F=>?_);have K:=core E C N D L F;have U:=M.fr K.f ap;have aP:gc C w.heap.size 0 (.U p):=U.cell 0;refine fA ?_;refine fI fx fx (uo C B g _ vf _ _ fO _ p K.o) ?_;rintro r aV ⟨rfl,aS,aa⟩;rw[ad];refine fA ?_;exact fB fx fx ⟨rfl,_,_,_,y.t (K.t aa)⟩
  .rw[if_pos I,if_neg I];refine fA ?_;exact fB fx fx ⟨rfl,_,_,_,Q⟩
 .rw[if_pos e,if_neg e];refine fA ?_;exact fB fx fx ⟨rfl,_,_,_,X⟩
