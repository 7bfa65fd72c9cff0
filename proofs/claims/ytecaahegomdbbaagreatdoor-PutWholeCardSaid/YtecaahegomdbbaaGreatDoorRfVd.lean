/- Parts of the proof. -/
import Derived.Test.YtecaahegomdbbaaGreatDoorRfB9b
set_option linter.all false
set_option maxRecDepth 100000
set_option maxHeartbeats 64000000
namespace Go.Proofs.YtecaahegomdbbaaGreatDoor.gp
open Go.Proofs.Tryz
open Go.RowKit
section
def ni (n:Int) (e:En):En:=if n<e.node then⟨e.path,e.node-1⟩else e
theorem pQ (n:Int) (e:En):(ni n e).path=e.path:=by grind [ni]
def xx (p:fQ) (e:En):Bool:=decide (e.path=p)
def ti (m:gZ) (t:fY) (p:fQ):Int:=
 if(gi m).2.1≠0 then(gi m).2.1 else if(hC t p).2≠0 then(hC t p).2 else if p=[]then 1 else if 0<(nE t p).length then 10 else 0
def Iy (t:fY) (p:fQ) (k:Int):fY:=
 if(tJ t p).length=1 then⟨(t.es.filter (nB (xx p))).map (ni k),t.ns.eraseIdx k.toNat⟩else⟨t.es.filter (nB (xx p)),t.ns⟩
def uP (m:gZ) (t:fY) (p:fQ):fY:=if ti m t p=0 then kT (Iy t p (hC t p).1) p (gi m).2.2.calls else t
theorem Qw {α:Type} (f:α->α) {l:List α} {i:Nat} {x:α} (h:l[i]? =some x):((l.take i).map f++l.drop i).set i (f x)=(l.take (i+1)).map f++l.drop (i+1):=by
 have hi:=(List.getElem?_eq_some_iff.1 h).1
 have hd:l.drop i=x::l.drop (i+1):=by rw[←(List.getElem?_eq_some_iff.1 h).2];exact List.drop_eq_getElem_cons hi
 have hl:((l.take i).map f).length=i:=by rw[List.length_map,List.length_take];omega
 rw[hd,List.set_append_right _ _ (by omega),hl,Nat.sub_self,List.set_cons_zero,List.take_add_one,h,List.map_append,List.append_assoc]
 rfl
theorem Tc {α:Type} (f:α->α) {l:List α} {i:Nat} {x:α} (h:l[i]? =some x):((l.take i).map f++l.drop i)[i]? =some x:=by
 grind
attribute [local irreducible] xs T
structure DrI (w0:World) (B g gE cE gN cN:Nat) (m:gZ) (vf:Value) (fK:List gG) (es:List En) (n:Nat) (nl:Nat) (i:Nat) (w:World):Prop where
 f:Fr (DG g (.slice (some ⟨gE,0,none⟩) es.length cE) (.slice (some ⟨gN,0,none⟩) nl cN)) w0 w
 k:fU w g 88 (H9 m vf (.slice (some ⟨gE,0,none⟩) es.length cE) (.slice (some ⟨gN,0,none⟩) (nl-1) cN))
 e:Ow hI 2 w B 49 (.slice (some ⟨gE,0,none⟩) es.length cE) ((es.take i).map (ni n)++es.drop i)
 n:Ow gz 12 w B 37 (.slice (some ⟨gN,0,none⟩) (nl-1) cN) (fK.eraseIdx n)
 i:i<=es.length
theorem Mm (w:World) (B g:Nat) (m:gZ) (vf ve vn:Value) (fK:List gG) (t:fY) (n:Nat) (h:nC w B g m vf ve vn fK t) (ab:n<t.ns.length) (af:∀e∈t.es,e.node≠n):
  fL prog 113 #[.pointer (some ⟨g,0,none⟩),.int .i64 (n:Int)] w λr w'=>r= .tuple #[]/\∃ah ag,iS w B g vf ve vn fK w' m ⟨t.es.map (ni n),t.ns.eraseIdx n⟩ ve ah ag:=by
 refine gK func113 fx fF ?_;have hlen:=h.i.tr.len;have h0:=h.i.h;have hle:=h.i.le;have ar:=h.i.ln;obtain⟨u,F,rfl,an,ao,ai,aj,_⟩:=gD.go h.o.e fy;obtain⟨v,cN,rfl,ap,aq,ak,al,_⟩:=gD.go h.o.n fy;have Z:u≠g:=h.i.a u (.inl rfl);have aa:v≠g:=h.i.a v (.inr (.inl rfl));have Q:u≠v:=λe=>h.o.e.apart h.o.n fV rfl (by rw[e];rfl)
 refine h9 (α:=Nat) 0 fx (λi=>[(0,.pointer (some ⟨g,0,none⟩)),(1,.int .i64 (n:Int)),(4,.int .i64 (i:Int))]) (DrI w B g u F v cN m vf fK t.es n fK.length) (λi=>t.es.length-i) ?_ ?_
 ·rintro i I ⟨y,E,G,L,hi⟩;have k4:I.cell? ⟨g,4,none⟩=some (.slice (some ⟨u,0,none⟩) t.es.length F):=E.cell 4
  by_cases fW:i<t.es.length
  ·obtain⟨x,f⟩:∃x,t.es[i]? =some x:=mu;have T:=jS f;have av:=h.i.r x T;have au:=af x T;have M:=Tc (ni (n:Int)) f;have K:=Qw (ni (n:Int)) f;obtain⟨_,_,C,_,_,_,_,X⟩:=gD.go G fS;injection C with C _ _
   injection C with C
   injection C with C
   subst C;have q1:I.cell? ⟨u,i*2+1,none⟩=some (.int .i64 x.node):=X _ _ (flat_get gj M rfl)
   by_cases R:(n:Int)<x.node
   ·have J:ni (n:Int) x=⟨x.path,x.node-1⟩:=by unfold ni;rw[if_pos R]
    rw[J]at K
    repeat' (first|refine gF i (i*2) rfl rfl rfl rfl fy fW ?_|refine fT ?_|fail)
    refine WM gj i 1 G fx fx fy fy fF fx M (show hI ⟨x.path,x.node-1⟩=(hI x).set 1 (.int .i64 (x.node-1))from fx) (λN O D=>?_);rw[K]at O;refine fA ?_;exact gX fx ⟨_,by dsimp only;omega,rfl,i+1,sub ⟨rfl,rfl,rfl⟩,⟨y.t (D.mono λb _ d=> .inr (.inl (by have:b=u:=d;rw[this];rfl))),E.fr D (λe=>Z e.symm),O,L.fr D λb d e=>Q (by have h1:v=b:=jk d;omega),fW⟩,rfl⟩
   ·have J:ni (n:Int) x=x:=by unfold ni;rw[if_neg R]
    rw[J,sR M]at K
    repeat' (first|refine gF i (i*2) rfl rfl rfl rfl fy fW ?_|refine fT ?_|fail)
    exact gX fx ⟨_,by dsimp only;omega,rfl,i+1,sub ⟨rfl,rfl,rfl⟩,⟨y,E,by grind,L,fW⟩,rfl⟩
  ·obtain rfl:i=t.es.length:=fy;rw[km,jJ,nk]at G;have Y:(fK.eraseIdx n).map (·.n)=t.ns.eraseIdx n:=by rw[←h.o.m,Q1,Q1,pE,CQ,OL]
   have ae:(t.ns.eraseIdx n).length=t.ns.length-1:=by rw[LR,if_pos ab]
   have S:∀x∈t.ns.eraseIdx n,x∈t.ns:=λx f=>P4 f
   have key:iS w B g vf (.slice (some ⟨u,0,none⟩) t.es.length F) (.slice (some ⟨v,0,none⟩) fK.length cN) fK I m ⟨t.es.map (ni n),t.ns.eraseIdx n⟩ (.slice (some ⟨u,0,none⟩) t.es.length F) (.slice (some ⟨v,0,none⟩) (fK.length-1) cN) (fK.eraseIdx n):=
    ⟨h.step y rfl E G L (λx f=>h.o.i x (P4 f)) Y (λe he=>by
     obtain⟨x,f,rfl⟩:=lN.1 he;have h1:=h.i.r x f
     grind [ni]) fS (λx f=>h.i.l x (S x f)) (λx f=>h.i.s x (S x f)) fS (by rw[ae];omega),y,λb d=>by
      rcases d with d|d|d
      ·exact .inl (.inl d)
      ·exact .inl (.inr (.inl d))
      ·exact .inl (.inr (.inr d)),by grind [List.mem_of_mem_eraseIdx]⟩
   refine fA ?_;refine VU ?_;exact lX fx ⟨rfl,_,_,key⟩
 ·intro H;have k5:w.cell? ⟨g,5,none⟩=some (.slice (some ⟨v,0,none⟩) fK.length cN):=h.i.k.cell 5;refine fA ?_;refine fI fx fx (Gk w B v cN fK n h.o.n fy fy λx f=>(h.o.i x f).in) ?_;rintro r I ⟨rfl,W,y⟩;have E:=h.i.k.fr y (λe=>aa e.symm);refine fA ?_;refine iq E fx fx fF fx fx (λN U D=>?_);have V:Fr (DG g (.slice (some ⟨u,0,none⟩) t.es.length F) (.slice (some ⟨v,0,none⟩) fK.length cN)) w N:=(y.mono λb _ d=> .inr (.inr (by have:b=v:=d;rw[this];rfl))).t (D.mono λb _ d=> .inl d);have am:=(h.o.e.fr y λb d e=>Q (by have h1:u=b:=jk d;omega)).fr D λb d=>by have h1:u=b:=jk d;omega
  have ad:=W.fr D λb d=>by have h1:v=b:=jk d;omega
  refine fA ?_;refine hv ?_;exact ic (H 0 N ⟨V,U,by grind,ad,iy _⟩) (sub ⟨rfl,rfl,rfl⟩)
theorem yV (w:World) (e:En) (g3:Nat) (p:fQ) (f:w.cell? ⟨g3,0,none⟩=some (.string (su p))):fL prog 112 #[.agg (hI e).toArray,.pointer (some ⟨g3,0,none⟩)] w λr w'=>r= .bool (xx p e)/\Ext w w':=by
 refine gK func112 fx fF ?_;refine fA ?_;refine hD fx (λd g a m=>?_);have k0:d.cell? ⟨w.heap.size,0,none⟩=some (.string (su e.path)):=fU.cell g 0;have k3:d.cell? ⟨g3,0,none⟩=some (.string (su p)):=a.cell f
 repeat' (first|refine gq (op:= .eql) rfl rfl rfl ?_|refine fT ?_|fail)
 exact fB fx fx ⟨rfl,a⟩
theorem Dc (w:World) (g:Nat) (m:gZ) (vf ve vn:Value) (fK:List gG) (t:fY) (h:AX w g m vf ve vn fK t):fL prog 15 #[.pointer (some ⟨g,0,none⟩)] w λr w'=>r= .int .i64 (gd t.ns:Int)/\Ext w w':=by
 refine gr func15 fx fF ?_;refine fA ?_;refine hL (cs:=[ve,vn]) fx fF (oS h.k) ?_;refine fA ?_;refine fI fx fx (xi w _ _ fK t h.tr h.s h.ln) ?_;rintro r d ⟨rfl,a⟩;exact y5
theorem B3 (w:World) (B g:Nat) (m:gZ) (vf ve vn:Value) (fK:List gG) (t:fY) (p:fQ) (h:nC w B g m vf ve vn fK t) (hc:0<=m.calls/\m.calls<=4000000000000000000) (aN:∃e∈t.es,e.path=[]):
  fL prog 64 #[.pointer (some ⟨g,0,none⟩),.string (su p)] w λr w'=>r= .int .i64 (ti m t p)/\∃aT aU aQ,iS w B g vf ve vn fK w' (gi m).2.2 (uP m t p) aT aU aQ:=by
 refine gK func64 fx fF ?_;have hlen:=h.i.tr.len;have a7:=h.i.k.lt;have h0:=h.i.h;have hle:=h.i.le;obtain⟨d,v,rfl,a8,a9,a4,a5,_⟩:=gD.go h.o.e fy;have aw:d≠g:=h.i.a d (.inl rfl);refine fA ?_;refine hD fx (λay aB aj bc=>?_);have aC:fU ay w.heap.size 9 #[.string (su p)]:=aB;have h1:=h.ext aj;refine fA ?_;refine fI fx fx (lJ ay g m vf _ _ _ v h1.i.k h1.i.h h1.i.f hc h1.i.af) ?_;rintro r az ⟨rfl,aD,W⟩;have ax:=h1.i.put W aD (iP m);have X:=(iS.ext h aj).t (iS.put h1 W ax (iP m));have ag:=aC.fr W fy;unfold uP ti
 by_cases e:(gi m).2.1=0
 ·rw [if_neg (λh=>h e),e];have k3:az.cell? ⟨w.heap.size,0,none⟩=some (.string (su p)):=ag.cell 0;refine fA ?_;refine fI fx fx (mT az g _ vf _ _ fK t p ax) ?_;rintro r T ⟨rfl,ak⟩;have Q:=X.t (iS.ext X.o ak);have ah:=ag.ext ak
  by_cases I:(hC t p).2=0
  ·rw [if_neg (λh=>h I),I];obtain⟨i,hi,aJ⟩:=find_range h.i.r I;rw[hi];have aO:T.cell? ⟨w.heap.size,0,none⟩=some (.string (su p)):=ah.cell 0
   by_cases O:p=[]
   ·rw[if_pos O]
    repeat' (first|refine gq (op:= .eql) (b:=[]) (r:=true) rfl rfl (by simp[hZ,O]) ?_|refine fT ?_|fail)
    exact fB fx fx ⟨rfl,_,_,_,Q⟩
   ·rw [if_neg O];have aq:=Fr.drew hG T;have R:=Q.t (iS.ext Q.o aq);have bd:T.drew.cell? ⟨w.heap.size,0,none⟩=some (.string (su p)):=aO
    repeat' (first|refine gq (op:= .eql) (b:=[]) (r:=false) rfl rfl (by simp[hZ,O]) ?_|refine fT ?_|fail)
    refine hL (cs:=[.slice (some ⟨d,0,none⟩) t.es.length v,vn]) fx fF (oS R.o.i.k) ?_;refine fA ?_;refine fI fx fx (NT T.drew _ _ t p R.o.i.tr.e h.i.le) ?_;rintro r ae ⟨aF,al⟩;obtain⟨aW,c4,rfl,_,_⟩:=aF.form;have Y:=R.t (iS.ext R.o al);have aE:=(ah.ext aq).ext al
    by_cases hk:0<(nE t p).length
    ·rw[if_pos hk];refine fA ?_;exact fB fx fx ⟨rfl,_,_,_,Y⟩
    ·rw[if_neg hk,if_pos rfl];have ar:=Fr.drew hG ae;have S:=Y.t (iS.ext Y.o ar);have ai:=aE.ext ar;have bf:ae.drew.cell? ⟨w.heap.size,0,none⟩=some (.string (su p)):=ai.cell 0;refine fA ?_;refine hL (cs:=[.slice (some ⟨d,0,none⟩) t.es.length v,vn]) fx fF (oS S.o.i.k) ?_;refine fA ?_;refine fI fx fx (IE ae.drew _ _ t p S.o.i.tr.e h.i.le) ?_;rintro r H ⟨aG,am⟩;obtain⟨aX,c5,rfl,_,_⟩:=aG.form;have y:=S.t (iS.ext S.o am);have M:=ai.ext am;have ao:=y.o.o.e;have ba:=(y.o.o.e.gH rfl).2;have be:H.cell? ⟨g,4,none⟩=some (.slice (some ⟨d,0,none⟩) t.es.length v):=y.o.i.k.cell 4;have a3:w.heap.size<H.heap.size:=M.lt
     have ap:¬DG g (.slice (some ⟨d,0,none⟩) t.es.length v) vn w.heap.size:=λJ=>by
      rcases J with J|J|J
      ·omega
      ·have:d=w.heap.size:=jk J;omega
      ·have:=(h.o.n.gH J).2;omega
     have av:∀e∈t.es.filter (nB (xx p)),e∈t.es/\e.path≠p:=by grind [nB,xx]
     have aL:0<(t.es.filter (nB (xx p))).length:=by
      obtain⟨e,he,aI⟩:=aN;refine VS (a:=e) (HD.2 ⟨he,?_⟩);unfold nB xx;simp[aI,uM O]
     have bb:(t.es.filter (nB (xx p))).length<=t.es.length:=fS
     have core:∀E C,Ow hI 2 E B 49 (.slice (some ⟨d,0,none⟩) (t.es.filter (nB (xx p))).length v) (t.es.filter (nB (xx p)))->Fr (· =d) H E->fU C g 88 (H9 (gi m).2.2 vf (.slice (some ⟨d,0,none⟩) (t.es.filter (nB (xx p))).length v) vn)->Fr (· =g) E C->iS H B g vf (.slice (some ⟨d,0,none⟩) t.es.length v) vn fK C (gi m).2.2 ⟨t.es.filter (nB (xx p)),t.ns⟩ (.slice (some ⟨d,0,none⟩) (t.es.filter (nB (xx p))).length v) vn fK:=λE C N D L F=>by
      have an:Fr (DG g (.slice (some ⟨d,0,none⟩) t.es.length v) vn) H C:=(D.mono λb _ u=> .inr (.inl (by have:b=d:=u;rw[this];rfl))).t (F.mono λb _ u=> .inl u);have aK:=(y.o.o.n.fr D λb u e=>y.o.o.n.apart y.o.o.e fV u (by have:b=d:=e;rw[this];rfl)).fr F λb u=>h.i.a b (.inr (.inl u))
      exact⟨y.o.step an fx L (N.fr F λb u=>by have h1:d=b:=jk u;omega) aK y.o.o.i h.o.m (λe he=>h.i.r e (av e he).1) aL h.i.l h.i.s fy h.i.ln,an,λb u=>by
       rcases u with u|u|u
       ·exact .inl (.inl u)
       ·exact .inl (.inr (.inl u))
       ·exact .inl (.inr (.inr u)),fS⟩
     have au:fR t.es p=some (i:Int):=by
      unfold hC at hi I
      by_cases h0:ja t p=0
      ·grind
      ·grind
     by_cases G:(tJ t p).length=1
     ·have ad:Iy t p (i:Int)=⟨(t.es.filter (nB (xx p))).map (ni (i:Int)),t.ns.eraseIdx i⟩:=by unfold Iy;rw[if_pos G,jf]
      have aM:∀e∈t.es.filter (nB (xx p)),e.node≠(i:Int):=λe he a6=>by
       obtain⟨h1,aY⟩:=av e he;obtain⟨e0,aZ,a0,a1⟩:=hB au;unfold tJ at G;rw[au]at G;dsimp only at G;rw[jF]at G;obtain⟨a,a2⟩:=HR.1 G;have m1:e∈t.es.filter λe=>decide (e.node=(i:Int)):=fS
       have m0:e0∈t.es.filter λe=>decide (e.node=(i:Int)):=fS
       grind
      refine Bi ?_;refine fI fx fx (qw H B d v t.es 112 #[.pointer (some ⟨w.heap.size,0,none⟩)] (xx p) ao h.i.le h0 fF (λw' V x _=>yV w' x w.heap.size p ((M.fr V fy).cell 0))) ?_;rintro r E ⟨rfl,N,D⟩;have ab:=y.o.i.k.fr D (λe=>aw e.symm);refine fA ?_;refine iq ab fx fx fF fx fx (λC L F=>?_);have K:=core E C N D L F;refine fA ?_;refine fI fx fx (Mm C B g _ vf _ _ fK _ i K.o aJ aM) ?_;rintro r aA ⟨rfl,bg,aR,aH⟩;have Z:=K.t aH;have U:=M.fr Z.f ap;have aP:aA.cell? ⟨w.heap.size,0,none⟩=some (.string (su p)):=U.cell 0;refine fA ?_;refine fI fx fx (tT aA B g _ vf _ _ aR _ p Z.o) ?_;rintro r aV ⟨rfl,aS,aa⟩;rw[ad];refine fA ?_;exact fB fx fx ⟨rfl,_,_,_,y.t (Z.t aa)⟩
     ·have ad:Iy t p (i:Int)=⟨t.es.filter (nB (xx p)),t.ns⟩:=by unfold Iy;rw[if_neg G]
      refine Bi ?_;refine fI fx fx (qw H B d v t.es 112 #[.pointer (some ⟨w.heap.size,0,none⟩)] (xx p) ao h.i.le h0 fF (λw' V x _=>yV w' x w.heap.size p ((M.fr V fy).cell 0))) ?_;rintro r E ⟨rfl,N,D⟩;have ab:=y.o.i.k.fr D (λe=>aw e.symm);refine fA ?_;refine iq ab fx fx fF fx fx (λC L F=>?_);have K:=core E C N D L F;have U:=M.fr K.f ap;have aP:C.cell? ⟨w.heap.size,0,none⟩=some (.string (su p)):=U.cell 0;refine fA ?_;refine fI fx fx (tT C B g _ vf _ _ fK _ p K.o) ?_;rintro r aV ⟨rfl,aS,aa⟩;rw[ad];refine fA ?_;exact fB fx fx ⟨rfl,_,_,_,y.t (K.t aa)⟩
  ·rw[if_pos I,if_neg I];refine fA ?_;exact fB fx fx ⟨rfl,_,_,_,Q⟩
 ·rw[if_pos e,if_neg e];refine fA ?_;exact fB fx fx ⟨rfl,_,_,_,X⟩
end
end Go.Proofs.YtecaahegomdbbaaGreatDoor.gp
