/- Parts of the proof. -/
import Derived.Test.YtecaahegomdbbaaGreatDoorRfB9b
set_option linter.all false
set_option maxRecDepth 100000
set_option maxHeartbeats 64000000
namespace Go.Proofs.YtecaahegomdbbaaGreatDoor.gp
open Go.Proofs.Tryz
open Go.RowKit
section
open Wr
attribute [local irreducible] xs T
theorem G3 (l:List hJ):(jE l).length=l.length:=by simp[jE]
theorem CN:∀(l:List hJ) (lo M:Int),js 1 l->(∀p∈l,lo<=p.pos/\gO p<=M)->lo<=M->(fE l:Int)<=M-lo
 |[],lo,M,_,_,h=>by simp only[fE];omega
 |p::r,lo,M,hs,hm,h=>by
  unfold js at hs;rw[jr]at hs;have a:=hm p ir;have:=CN r (gO p) M hs.2 (λq hq=>⟨by have:=hs.1 q hq;omega,(hm q (by simp[hq])).2⟩) a.2;rw[fE];unfold gO at this a;omega
theorem FU {l:List hJ} {i:Nat} {e:mr} (h:(jE l)[i]? =some e):∃q,l[i]? =some q/\e=(q.pos.toNat,q.data.length):=by
 unfold jE at h;rw[qX]at h;cases hq:l[i]? with
 |none=>rw[hq]at h;cases h
 |some q=>rw[hq]at h;injection h with h;exact⟨q,rfl,h.symm⟩
structure WrS (Wb:World) (g:Nat) (fin:Nd) (va vc:Value) (J:List hJ) (x:Nat×Value) (w':World):Prop where
 i:x.1<=J.length
 b:fU w' g 37 (gz ⟨fin,va,vc,x.2⟩).toArray
 d:Ow j5 2 w' Wb.heap.size 39 x.2 (J.take x.1)
 f:Fr (· =g) Wb w'
structure WrC (Wc:World) (g n:Nat) (q0 q1:Int) (P:List hJ) (j:Nat) (w':World):Prop where
 jl:j<=P.length
 b:fU w' g 5 (tU (oj q0 q1 (P.take j) (List.replicate n 0))).toArray
 f:Fr (· =g) Wc w'
theorem yJ {q0 q1:Int} {P:List hJ} {j:Nat} {p:hJ} {r:fQ} (h:P[j]? =some p):oj q0 q1 (P.take (j+1)) r=qA q0 q1 (oj q0 q1 (P.take j) r) p:=by
 unfold oj;rw[kO,h,xN,Lo];rfl
def WrR (w:World) (x:gG) (pos:Int) (s:fQ) (r:Value) (w':World):Prop:=
 ∃x',r= .tuple #[.agg (gz x').toArray,.int .i64 (gB x.n pos s).2]/\x'.n=(gB x.n pos s).1/\ix w' x'/\((gB x.n pos s).2=0->qH w' w.heap.size x')/\Ext w w'
theorem Fo (w:World) (x:gG) (pos:Int) (s:fQ) (I:ix w x) (bQ:G0 x.n) (E:fE x.n.data<=1000000) (dk:s.length<=1000000) (H:pos<=4000000000000000000):fL prog 50 #[.agg (gz x).toArray,.int .i64 pos,.string (su s)] w (WrR w x pos s):=by
 refine kz func50 fx fF ?_;unfold WrR;refine fA ?_;refine hD fx (λC cm bB cQ=>?_);refine fA ?_;refine gy (z:= .agg tP) fF (λbi cq a1 dg=>?_);have bm:fU bi w.heap.size 37 (gz x).toArray:=fU.ext cm a1;have bz:Ext w bi:=bB.t a1;have dx:=bB.size;have z2:=a1.size;refine fA ?_;refine gM (t:=37) bm fx fx ?_;refine fA ?_;refine fG fx fx (wN bi x (I.ext bz) E) (λr aK cg=>?_);obtain⟨rfl,aA⟩:=cg;have V:=bm.ext aA;have al:=fU.ext cq aA;have W:=bz.t aA;have ap:=I.ext W;have z3:=aA.size;have L:∀{w:World} {y:gG},ix w y->∀u∈gz y,u.oneCell'=true:=λh=>iN h
 by_cases bad:fH x.n=false∨x.n.kind≠2∨pos<0∨1099511627776<pos
 ·have hw:gB x.n pos s=(x.n,1):=by unfold gB;rw[if_pos bad]
  rw[hw]
  have ao:(decide (x.n.kind=2)&&fH x.n)=false∨((decide (x.n.kind=2)&&fH x.n)=true/\(pos<0∨1099511627776<pos)):=by
   cases h1:fH x.n with
   |false=>left;simp
   | true=>
    by_cases av:x.n.kind=2
    ·right;refine⟨by simp[av],?_⟩;rcases bad with h|h|h
     ·rw[h1]at h;cases h
     ·exact absurd av h
     ·exact h
    ·left;simp[av]
  rcases ao with ao|⟨ao,bc⟩
  ·rw[ao];refine fA ?_;exact y0
  ·rw[ao];rcases bc with bc|bc
   ·refine fA ?_;exact y0
   ·refine fA ?_;exact y0
 have b4:fH x.n=true:=by cases h:fH x.n with
  |true=>rfl
  |false=>exact absurd (.inl h) bad
 have b2:x.n.kind=2:=by
  by_cases h:x.n.kind=2
  ·exact h
  ·exact absurd (.inr (.inl h)) bad
 have bf:0<=pos:=by
  by_cases h:0<=pos
  ·exact h
  ·exact absurd (.inr (.inr (.inl fy))) bad
 have db:pos<=1099511627776:=by
  by_cases h:pos<=1099511627776
  ·exact h
  ·exact absurd (.inr (.inr (.inr fy))) bad
 rw[show(decide (x.n.kind=2)&&fH x.n)=true from by rw[b2,b4];rfl];have an:jP x.n=true:=jc b4 b2
 have J:gB x.n pos s=(if 1099511627776-pos<(s.length:Int)then(x.n,2)
  else if s=[]then(x.n,0)
  else if 4000<fE (qN x.n.data pos s)∨16<(qN x.n.data pos s).length then(x.n,13)
  else({x.n with data:=qN x.n.data pos s,size:=max x.n.size (pos+(s.length:Int))},0)):=by
  unfold gB;rw[if_neg bad]
 by_cases bj:1099511627776-pos<(s.length:Int)
 ·rw[J,if_pos bj];refine Uf ?_;exact y0
 rw[if_neg bj]at J;refine Uf ?_;refine gM (t:=37) V fx fx ?_;refine fA ?_;refine fG fx fx (tn aK x ap bQ) (λr m ch=>?_);obtain⟨ar,rfl,Z,bh,v⟩:=ch;have F:=V.ext v;have bY:=al.ext v;have bA:=W.t v;have z4:=v.size;refine fA ?_;refine gy (z:= .agg tP) fF (λdw bv bH di=>?_);refine fA ?_;refine hd bv fx fx fF fx (fJ (l:=gz ar) (lj.2 (L Z.in))) (λaL aW bN=>?_);have ai:Ext m aL:=bH.trans bN λj D e=>by have:j=m.heap.size:=e;omega
 have z5:=bH.size;have dC:=bN.size;have aX:=F.ext ai;have bZ:=bY.ext ai;have aZ:=bA.t ai;have a7:=Z.ext ai
 by_cases hs0:s=[]
 ·rw[if_pos hs0]at J;subst hs0;rw[J]
  repeat' (first|refine gq (op:= .eql) (r:=true) rfl rfl (by simp[hZ]) ?_|refine fT ?_|fail)
  refine gM (t:=37) aW fx fx ?_;refine fA ?_;refine hd bZ fx fx fF fx (fJ (l:=gz ar) (lj.2 (L a7.in))) (λaM cu bO=>?_);have aj:Ext w aM:=aZ.trans bO λj D e=>by have:j=C.heap.size:=e;omega
  have aa:qH aM aK.heap.size ar:=a7.fr bO λb E e=>by have:=a7.f b E;have:b=C.heap.size:=e;omega
  refine fA ?_;exact hP fx fx fx cu fF ⟨ar,rfl,bh,aa.in,(λ_=>aa.mono fy),aj⟩
 rw[if_neg hs0]at J;obtain⟨f1,f2,f3,f4,f5,f6⟩:=(kB x.n).1 an
 have cJ:x.n.data.all jW=true:=by
  unfold jP at an;simp only[iO]at an;exact an.1.1.2
 obtain⟨a,rfl⟩:=lO bf;obtain⟨aO,U⟩:=D5 an bf hs0 fy;have c1:max x.n.size ((a:Int)+(s.length:Int))<=1099511627776:=fy;have bd:∀{zz:List mr},zz.Perm (jE x.n.data++[(a,s.length)])->Bm zz->FK zz=jE (qN x.n.data (a:Int) s):=λH cE=>MX (l:=x.n.data) (pos:=(a:Int)) (s:=s) (λp H=>⟨(f6 p H).2.1,by have:=(f6 p H).2.2;omega,(f6 p H).1⟩) bf hs0 aO (λq hq=>⟨(U q hq).1,(U q hq).2.1⟩) H cE
 have bg:=λq hq=>Ts (l:=x.n.data) (pos:=(a:Int)) (s:=s) f5 (λp H=>⟨(f6 p H).2.1,by have:=(f6 p H).2.2;omega⟩) aO (q:=q) hq
 obtain⟨g,cx⟩:∃g,g=qN x.n.data (a:Int) s:=⟨_,rfl⟩;rw[←cx]at aO U bd bg J;have c3:=CN g 0 1099511627776 aO (λq hq=>⟨(U q hq).2.1,by have:=(U q hq).2.2;omega⟩) fy;have da:(jE x.n.data).length<=16:=by rw[G3];omega
 have cQ:0<s.length:=tE.2 hs0
 repeat' (first|refine gq (op:= .eql) (r:=false) rfl rfl (by simp[hZ,hs0]) ?_|refine fT ?_|fail)
 refine gM (t:=37) aX fx fx ?_;refine fA ?_;refine fG fx fx (vA aL x (I.ext aZ) cJ E fy) (λr aM ci=>?_);obtain⟨aa,aj⟩:=ci;refine Uf ?_;refine fG fx fx (xP aM a s.length fy fy) (λr cX cj=>?_);obtain⟨rfl,rfl⟩:=cj;refine fA ?_;refine Ia (vs:=qy (a,s.length)) mJ fx fx fV fV (λu hu=>by rw[kl.1 hu];rfl) (λcX bw aB dj=>?_);refine jI (news:=qy (a,s.length)) mJ fx fV fx (gD.ext aa aB) fx (gS bw fV fx) fx (λu hu=>by rw[kl.1 hu];rfl) (by unfold maxLen;omega) fy (by have:=aj.size;have:=aB.size;omega) (λv9 aN bV bP dl=>?_);have bW:Ow qy 1 aN aL.heap.size 157 v9 (jE x.n.data++[(a,s.length)]):=Ow.ext1 (l':=[(a,s.length)]) (by simpa using bV);have a2:Ext aL aN:=Ext.te (aj.t aB) bP λj D e=>by have:=(aa.gH e).1;omega
 refine fA ?_
 refine fG fx fx (zu aN v9 _ bW.rw (λe he=>by
  rcases iK.1 he with he|he
  ·obtain⟨p,H,rfl⟩:=lN.1 he;have h1:=f6 p H;have av:=tE.2 h1.1;unfold gO at h1;dsimp only;omega
  ·rw[kl.1 he];dsimp only;omega) ir (by rw[hQ,Bx];omega)) (λr aG cd=>?_)
 obtain⟨⟨zz,b5,b0,ak⟩,bC⟩:=cd;rw[bd b5 b0]at ak;have X:=a2.t bC;have dD:=a2.size;clear aa bV bW bP bw aj aB a2 bC bd b5 b0;obtain⟨ad,AZ,rfl,c5,c6,bl⟩:=ak.rw.op nO;have c0:=G3 g;refine fA ?_;refine gA (α:=Nat) (λi=>[(1,.int .i64 (a:Int)),(2,.string (su s)),(3,.pointer (some ⟨w.heap.size,0,none⟩)),(6,.pointer (some ⟨C.heap.size,0,none⟩)),(8,.int .i64 ((a:Int)+(s.length:Int))),(9,.pointer (some ⟨m.heap.size,0,none⟩)),(10,.slice ad (jE g).length AZ),(11,.int .i64 (fE (g.take i):Int)),(54,.slice ad (jE g).length AZ),(55,.int .i64 ((jE g).length:Int)),(56,.int .i64 (i:Int))]) (λi w'=>aG=w'/\i<=g.length) (λi=>g.length-i) 0 (sub ⟨rfl,rfl,rfl,rfl,rfl,rfl,rfl,rfl,rfl,rfl,rfl⟩) ⟨rfl,iy _⟩ ?_;rintro i cU ⟨rfl,hi⟩
 by_cases fW:i<g.length
 ·obtain⟨b,o,p,rfl,_,be,cG,ba⟩:=bl.at_ (i:=i) fy;obtain⟨q,hq,rfl⟩:=FU be;have b7:=U q (jS hq);have cL:=mZ hq;have hle:=so g (i+1);have k0:=ba 0 _ rfl;rw[ph,kS]at k0
  repeat' (first|refine kV i (o+i) rfl rfl rfl rfl rfl fy ?_|refine IV rfl k0 ?_|refine fT ?_|fail)
  refine fG fx fx (mR aG q.pos.toNat q.data.length fy) (λr C h1=>?_);obtain⟨rfl,rfl⟩:=h1;refine fA ?_;exact gn ⟨i+1,sub ⟨rfl,rfl,rfl,rfl,rfl,rfl,rfl,jX fy,rfl,rfl,rfl⟩,⟨rfl,fW⟩,(by show g.length-(i+1)<g.length-i;omega)⟩
 obtain rfl:i=g.length:=fy;rw[km];have aw:=aX.ext X;have bn:=aW.ext X;have bX:=bZ.ext X;have aY:=aZ.t X;have dy:=X.size
 by_cases b1:4000<fE g∨16<g.length
 ·rw[if_pos b1]at J;rw[J];have b9:=I.ext aY;rcases pT 4000 (fE g)with cH|cH
  ·exact y11
  ·exact y11
 obtain⟨fin,am⟩:∃fin:Nd,fin={x.n with data:=g,size:=max x.n.size ((a:Int)+(s.length:Int))}:=⟨_,rfl⟩;rw[if_neg b1,←am]at J;rw[J];have cZ:fE g<=4000:=fy;have cY:g.length<=16:=fy;obtain⟨n1,O,Q,dt⟩:=ar;dsimp only at bh;subst bh;have k7:aG.cell? ⟨w.heap.size,7,none⟩=some (.int .i64 x.n.size):=aw.cell 7;refine MI ?_;refine iq bn fx fx fF fx fx (λcU bo bI=>?_);refine fA ?_;refine iq bo fx fx fF fx fx (λM bp bJ=>?_);have cn:fU M m.heap.size 37 (gz ⟨fin,O,Q,.slice none 0 0⟩).toArray:=by rw[am];exact bp
 have a3:Fr (· =m.heap.size) aG M:=bI.t bJ;have ah:Ext m M:=(ai.t X).trans a3 λj D e=>by have:j=m.heap.size:=e;omega
 have bx:=bA.t ah;have co:=F.ext ah;have z12:=a3.size;refine fA ?_;refine gM (t:=37) co fx fx ?_;refine fA ?_;refine fG fx fx (tn M x (I.ext bx) bQ) (λr cV ce=>?_);obtain⟨⟨dn,dr,ds,cT⟩,rfl,bR,ca,bD⟩:=ce;dsimp only at ca;subst ca;have a5:Ow j5 2 cV M.heap.size 39 cT x.n.data:=bR.d
 repeat' (first|refine ZI rfl rfl ?_|refine fT ?_|fail)
 refine qv (parts:=[(0,.tmp 82),(1,.tmp 83)]) (cells:=(j5 ⟨a,s⟩).toArray) (vs:=[(0,.int .i64 (a:Int)),(1,.string (su s))]) fx fF ?_;refine fA ?_;refine nY kk fx fx fV fV (λdu bq ax de=>?_);refine jI (B:=M.heap.size) (news:=j5 ⟨a,s⟩) kk fx fV fx (a5.ext ax) fx (gS bq fV fx) fx (λu hu=>lV [_] u (by simpa using hu)) (by unfold maxLen;omega) fy (by have:=bD.size;have:=ax.size;omega) (λcS T bS bK _=>?_);obtain⟨P,a9⟩:∃P,P=x.n.data++[(⟨(a:Int),s⟩:hJ)]:=⟨_,rfl⟩;have c2:P.length<=17:=by rw[a9,hQ,Bx];omega
 have bT:Ow j5 2 T M.heap.size 39 cS P:=by rw[a9];exact Ow.ext1 (l':=[(⟨(a:Int),s⟩:hJ)]) (by simpa using bS)
 rw[←a9]at bg;have S:Ext M T:=Ext.te (bD.t ax) bK λj D e=>by have:=(a5.gH e).1;omega
 have dz:=S.size;have a4:Ow qy 1 M aN.heap.size 157 (.slice ad (jE g).length AZ) (jE g):=ak.fr a3 λb E e=>by have:=(ak.gH E).1;have:b=m.heap.size:=e;omega
 have cy:=a4.ext S;have cp:=cn.ext S;obtain⟨_,_,em,_,_,ck⟩:=cy.rw.op nO;injection em with cb _ cc
 subst cb;subst cc;obtain⟨au,aR,rfl,c7,c8,cl⟩:=bT.rw.op ha;have cI:∀b o,ad=some ⟨b,o,none⟩->b≠m.heap.size:=λb o e=>by subst e;have:=(a4.gH (b:=b) rfl).1;omega
 have cC:∀b o,au=some ⟨b,o,none⟩->b≠m.heap.size:=λb o e=>by subst e;have:=(bT.gH (b:=b) rfl).1;omega
 clear ak bl a4 bS bK bq ax bR a5 bo bI bp bJ bn aw aX aW bv k7;refine fA ?_;refine gA (α:=Nat×Value) (λy=>[(6,.pointer (some ⟨C.heap.size,0,none⟩)),(9,.pointer (some ⟨m.heap.size,0,none⟩)),(14,.slice au P.length aR),(87,.slice ad (jE g).length AZ),(88,.int .i64 ((jE g).length:Int)),(89,.int .i64 (y.1:Int))]) (WrS T m.heap.size fin O Q g) (λy=>g.length-y.1) (0,.slice none 0 0) (sub ⟨rfl,rfl,rfl,rfl,rfl,rfl⟩) ⟨iy _,cp,Ow.nil _ _ _,Fr.refl _ _⟩ ?_;rintro⟨i,vd⟩ R ⟨hi,aS,Y,K⟩;dsimp only at hi aS Y K⊢;have dA:=K.size
 by_cases fW:i<g.length
 ·obtain⟨b,o,p,rfl,_,be,cG,ba⟩:=ck.at_ (i:=i) fy;obtain⟨q,hq,rfl⟩:=FU be;have b7:=U q (jS hq);have cO:=bg q (jS hq);have cL:=mZ hq;have hle:=so g (i+1);have dc:=tE.2 b7.1;have cM:gO q=q.pos+(q.data.length:Int):=rfl;have b8:((q.pos.toNat:Nat):Int)=q.pos:=fy;have k0:=K.cell (ba 0 _ rfl) (cI b o rfl);rw[ph,kS]at k0
  repeat' (first|refine kV i (o+i) rfl rfl rfl rfl rfl fy ?_|refine IV rfl k0 ?_|refine fT ?_|fail)
  refine fG fx fx (kM R q.pos.toNat q.data.length fy) (λr C h1=>?_);obtain⟨rfl,rfl⟩:=h1;rw[b8];refine fA ?_;refine fG fx fx (mR R q.pos.toNat q.data.length fy) (λr C h1=>?_);obtain⟨rfl,rfl⟩:=h1;refine fA ?_;refine XQ VC fx fx fx fy fy fy (λaH ae a0 df=>?_);rw[jf]at ae⊢;rw[OR]at ae;refine fA ?_;refine gA (α:=Nat) (λj=>[(6,.pointer (some ⟨C.heap.size,0,none⟩)),(9,.pointer (some ⟨m.heap.size,0,none⟩)),(14,.slice au P.length aR),(16,.complex .f64 (fw q.pos.toNat) (fw q.data.length)),(17,.int .i64 q.pos),(18,.slice (some ⟨R.heap.size,0,none⟩) q.data.length q.data.length),(87,.slice (some ⟨b,o,none⟩) (jE g).length AZ),(88,.int .i64 ((jE g).length:Int)),(89,.int .i64 (i:Int)),(98,.slice au P.length aR),(99,.int .i64 (P.length:Int)),(100,.int .i64 (j:Int))]) (WrC aH R.heap.size q.data.length q.pos (gO q) P) (λj=>P.length-j) 0 (sub ⟨rfl,rfl,rfl,rfl,rfl,rfl,rfl,rfl,rfl,rfl,rfl,rfl⟩) ⟨iy _,ae,Fr.refl _ _⟩ ?_;rintro j N ⟨D,af,aC⟩;have dB:=aC.size;obtain⟨room,ab⟩:∃room,room=oj q.pos (gO q) (P.take j) (List.replicate q.data.length 0):=⟨_,rfl⟩;have dd:room.length=q.data.length:=by rw[ab,sk _ _ _ _ (by rw[KI];omega),KI]
  rw[←ab]at af;have ay:Ext R N:=a0.trans aC λj D e=>by have:j=R.heap.size:=e;omega
  by_cases aF:j<P.length
  ·obtain⟨bk,op,p,rfl,c4,b6,c9,cF⟩:=cl.at_ (i:=j) aF;have cK:∀k u,(j5 p)[k]? =some u->N.cell? ⟨bk,op+j*2+k,none⟩=some u:=λk u hu=>ay.cell (K.cell (cF k u hu) (cC bk op rfl))
   repeat' (first|refine gF j (op+j*2) rfl rfl rfl rfl rfl aF ?_|refine fT ?_|fail)
   refine hL (cs:=j5 p) fx fx cK ?_;refine gy (z:= .agg #[.int .i64 0,.string ⟨#[]⟩]) fF (λcW aT ag cR=>?_);refine hd (cs:=(j5 p).toArray) aT fx fx fx fx (uB p) (λaI aU aD=>?_);have cv:Ext N aI:=Ext.te ag aD λj D e=>by have e':j=N.heap.size:=e;omega
   refine fA ?_;refine Ia (vs:=qy (q.pos.toNat,q.data.length)) mJ fx fx fV fV (λu hu=>by rw[kl.1 hu];rfl) (λaq aV bF dh=>?_);have bs:=aU.ext bF;have q0:aq.cell? ⟨N.heap.size,0,none⟩=some (.int .i64 p.pos):=bs.cell 0;refine fA ?_;refine fG fx fx (PC aq _ (q.pos.toNat,q.data.length) p.pos (gS aV fV fx) (by dsimp only;omega) (by dsimp only;omega)) (λr aJ cf=>?_);obtain⟨rfl,bG⟩:=cf;dsimp only;rw[b8,←cM];have az:Ext N aJ:=(cv.t bF).t bG
   by_cases aE:q.pos<=p.pos/\p.pos<gO q
   ·rw[decide_eq_true aE];have bb:=Fr.drew hG aJ;have ct:=(af.ext az).ext bb;have bt:=(bs.ext bG).ext bb;have dp:aJ.drew.cell? ⟨N.heap.size,0,none⟩=some (.int .i64 p.pos):=bt.cell 0;have dq:aJ.drew.cell? ⟨N.heap.size,1,none⟩=some (.string (su p.data)):=bt.cell 1
    repeat' (first|refine rH (p.pos-q.pos).toNat rfl rfl rfl fy fy fy fy ?_|refine fT ?_|fail)
    refine acZ ct fx fx fy fy (λdv bu cw=>?_);rw[ph,iC]at bu;refine fA ?_;exact gn ⟨j+1,sub ⟨rfl,rfl,rfl,rfl,rfl,rfl,rfl,rfl,rfl,rfl,rfl,rfl⟩,⟨aF,by rw[yJ b6,←ab];unfold qA Og;rw[if_pos (decide_eq_true aE)];exact bu,(aC.te (az.t bb)).t cw⟩,(by show P.length-(j+1)<P.length-j;omega)⟩
   ·rw[decide_eq_false aE];refine fA ?_;exact gn ⟨j+1,sub ⟨rfl,rfl,rfl,rfl,rfl,rfl,rfl,rfl,rfl,rfl,rfl,rfl⟩,⟨aF,by rw[yJ b6,←ab];unfold qA Og;rw[if_neg (by rw[decide_eq_false aE];decide)];exact af.ext az,aC.te az⟩,(by show P.length-(j+1)<P.length-j;omega)⟩
  ·obtain rfl:j=P.length:=fy;rw[km]at ab;have cP:room=q.data:=by rw[ab,cO]
   have br:=aS.ext ay;have k8:N.cell? ⟨m.heap.size,8,none⟩=some vd:=br.cell 8;have cz:=Y.ext ay;have dm:(g.take i).length=i:=by rw[kt];omega
   rw[cP]at af;have cN:q.data.length<=maxLen:=by unfold maxLen;omega
   refine fA ?_;refine acL af fx fx cN ?_;refine qv (parts:=[(0,.tmp 121),(1,.tmp 123)]) (cells:=(j5 q).toArray) (vs:=[(0,.int .i64 q.pos),(1,.string (su q.data))]) fx fF ?_;refine fA ?_;refine nY kk fx fx fV fV (λcW aT ag cR=>?_);have bE:=ay.t ag;refine jI (B:=T.heap.size) (news:=j5 q) kk fx fV fx (cz.ext ag) fx (gS aT fV fx) fx (λu hu=>lV [_] u (by simpa using hu)) (by unfold maxLen;omega) fy (by have:=bE.size;omega) (λv20 aI cA aD _=>?_)
   have a6:Ow j5 2 aI T.heap.size 39 v20 (g.take (i+1)):=by
    rw[kO,hq];exact Ow.ext1 (l':=[q]) (by simpa using cA)
   obtain⟨aP,aQ,rfl,_,_⟩:=a6.form;have aU:fU aI m.heap.size 37 (gz ⟨fin,O,Q,vd⟩).toArray:=(br.ext ag).fr aD λe=>by have:=(Y.gH e).1;omega
   refine fA ?_;refine iq aU fx fx fF fx fx (λaq aV bM=>?_);have cr:fU aq m.heap.size 37 (gz ⟨fin,O,Q,.slice aP (g.take (i+1)).length aQ⟩).toArray:=aV;have cB:Ow j5 2 aq T.heap.size 39 (.slice aP (g.take (i+1)).length aQ) (g.take (i+1)):=a6.fr bM λb E e=>by have:=(a6.gH E).1;have:b=m.heap.size:=e;omega
   refine fA ?_;exact gn ⟨(i+1,.slice aP (g.take (i+1)).length aQ),sub ⟨rfl,rfl,rfl,rfl,rfl,rfl⟩,⟨fW,cr,cB,((K.te bE).trans aD λj D e=>by have:=(Y.gH e).1;omega).t bM⟩,(by show g.length-(i+1)<g.length-i;omega)⟩
 ·obtain rfl:i=g.length:=fy;rw[km]at Y;have b3:∀b,b<m.heap.size->¬b=m.heap.size:=λb E e=>fy
  have a8:qH R aK.heap.size ⟨fin,O,Q,vd⟩:=by
   refine⟨?_,?_,?_⟩
   ·have h:=((Z.a.ext ah).ext S).fr K λb E=>b3 b (Z.a.gH E).2
    rw[am];exact h
   ·have h:=((Z.c.ext ah).ext S).fr K λb E=>b3 b (Z.c.gH E).2
    rw[am];exact h
   ·have h:Ow j5 2 R T.heap.size 39 vd g:=Y;rw[am];exact h.mono fy
  have cD:=((bY.ext ah).ext S).fr K (show ¬C.heap.size=m.heap.size by omega);refine fA ?_;refine gM (t:=37) aS fx fx ?_;refine fA ?_;refine hd cD fx fx fF fx (fJ (l:=gz ⟨fin,O,Q,vd⟩) (lj.2 (L a8.in))) (λaH ae bL=>?_);have a0:Ext w aH:=((bx.t S).trans K λj D e=>by have:j=m.heap.size:=e;omega).trans bL λj D e=>by have:j=C.heap.size:=e;omega
  have bU:qH aH aK.heap.size ⟨fin,O,Q,vd⟩:=a8.fr bL λb E e=>by have:=a8.f b E;have:b=C.heap.size:=e;omega
  refine fA ?_;exact hP fx fx fx ae fF ⟨⟨fin,O,Q,vd⟩,rfl,rfl,bU.in,(λ_=>bU.mono fy),a0⟩
end
end Go.Proofs.YtecaahegomdbbaaGreatDoor.gp
