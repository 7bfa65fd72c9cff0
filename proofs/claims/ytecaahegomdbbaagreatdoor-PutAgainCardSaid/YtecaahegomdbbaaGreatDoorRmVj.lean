/- Parts of the proof. -/
import Derived.Test.YtecaahegomdbbaaGreatDoorRmB9b
set_option linter.all false
set_option maxRecDepth 99999
set_option maxHeartbeats 0
namespace Go.Proofs.YtecaahegomdbbaaGreatDoor.gr
open Go.Proofs.Tryz
open Go.RowKit
section
open Wr
attribute [local irreducible] xs T
def Gi (l:ip hT):(jJ l).length=l.length:=by simp[jJ]
theorem Cz:∀(l:ip hT) (lo M:Int),jB 1 l->(∀p∈l,lo<=p.pos/\gU p<=M)->lo<=M->(fF l:Int)<=M-lo
 |[],lo,M,_,_,h=>by simp only[fF];omega
 |p::r,lo,M,hs,hm,h=>by
  unfold jB at hs;rw[jA]at hs;have d:=hm p iB;have:=Cz r (gU p) M hs.2 (λq hq=>⟨by have:=hs.1 q hq;omega,(hm q (by simp[hq])).2⟩) d.2;rw[fF];unfold gU at this d;omega
def F1 {l:ip hT} {i:Nat} {e:mH} (h:(jJ l)[i]? =some e):∃q,l[i]? =some q/\e=(q.pos.toNat,q.data.length):=by
 unfold jJ at h;rw[qX]at h;cases hq:l[i]? with
 |none=>rw[hq]at h;cases h
 |some q=>rw[hq]at h;injection h with h;exact⟨q,rfl,h.symm⟩
structure WrS (Wb:World) (g:Nat) (fin:Nd) (va vc:Value) (J:List hT) (x:Nat×Value) (w':World):Prop where
 i:x.1<=J.length
 b:fW w' g 37 (gB ⟨fin,va,vc,x.2⟩).toArray
 d:Ow kc 2 w' Wb.heap.size 39 x.2 (J.take x.1)
 f:Fr (· =g) Wb w'
structure WrC (Wc:World) (g n:Nat) (q0 q1:Int) (P:List hT) (j:Nat) (w':World):Prop where
 jl:j<=P.length
 b:fW w' g 5 (sd (oL q0 q1 (P.take j) (List.replicate n 0))).toArray
 f:Fr (· =g) Wc w'
def AA {q0 q1:Int} {P:ip hT} {j:Nat} {p:hT} {r:fL} (h:P[j]? =some p):oL q0 q1 (P.take (j+1)) r=qT q0 q1 (oL q0 q1 (P.take j) r) p:=by
 unfold oL;rw[j2,h,wD,ID];rfl
def WrR (w:i5) (x:gG) (pos:Int) (s:fL) (r:i6) (w':i5):Prop:=
 ∃x',r= .tuple #[.agg (gB x').toArray,.I (gy x.n pos s).2]/\x'.n=(gy x.n pos s).1/\im w' x'/\((gy x.n pos s).2=0->rj w' w.heap.size x')/\Ext w w'
def HL (w:i5) (x:gG) (pos:Int) (s:fL) (I:im w x) (bQ:GZ x.n) (E:fF x.n.data<=1000000) (dj:s.length<=1000000) (H:pos<=4000000000000000000):fQ prog 50 #[.agg (gB x).toArray,.I pos,.U s] w (WrR w x pos s):=by
 refine kg func50 fx fE ?_;unfold WrR;refine fA ?_;refine hP fx (λC cl bB cP=>?_);refine fA ?_;refine gx (z:= .agg tH) fE (λbi cp a1 df=>?_);have bm:fW bi w.heap.size 37 (gB x).toArray:=fW.ext cl a1;have bz:Ext w bi:=bB.t a1;have dw:=bB.size;have z2:=a1.size;refine fA ?_;refine gR (t:=37) bm fx fx ?_;refine fA ?_;refine fH fx fx (xK bi x (I.ext bz) E) (λr aK h3=>?_);obtain⟨rfl,aA⟩:=h3;have V:=bm.ext aA;have al:=fW.ext cp aA;have W:=bz.t aA;have ap:=I.ext W;have z3:=aA.size;have L:∀{w:i5} {y:gG},im w y->∀u∈gB y,u.oneCell'=true:=λh=>iC h
 by_cases bad:fG x.n=false\/x.n.kind≠2\/pos<0\/1099511627776<pos
 .have hw:gy x.n pos s=(x.n,1):=by unfold gy;rw[if_pos bad]
  rw[hw]
  have ao:(decide (x.n.kind=2)&&fG x.n)=false\/((decide (x.n.kind=2)&&fG x.n)=true/\(pos<0\/1099511627776<pos)):=by
   cases h1:fG x.n with
   |false=>left;simp
   | true=>
    by_cases av:x.n.kind=2
    .right;refine⟨by simp[av],?_⟩;rcases bad with h|h|h
     .rw[h1]at h;cases h
     .exact absurd av h
     .exact h
    .left;simp[av]
  rcases ao with ao|⟨ao,bc⟩
  .rw[ao];refine fA ?_;exact y0
  .rw[ao];rcases bc with bc|bc
   .refine fA ?_;exact y0
   .refine fA ?_;exact y0
 have b4:fG x.n=true:=by cases h:fG x.n with
  |true=>rfl
  |false=>exact absurd (.inl h) bad
 have b2:x.n.kind=2:=by
  by_cases h:x.n.kind=2
  .exact h
  .exact absurd (.inr (.inl h)) bad
 have bf:0<=pos:=by
  by_cases h:0<=pos
  .exact h
  .exact absurd (.inr (.inr (.inl fy))) bad
 have da:pos<=1099511627776:=by
  by_cases h:pos<=1099511627776
  .exact h
  .exact absurd (.inr (.inr (.inr fy))) bad
 rw[show(decide (x.n.kind=2)&&fG x.n)=true from by rw[b2,b4];rfl];have an:jV x.n=true:=iX b4 b2
 have J:gy x.n pos s=(if 1099511627776-pos<(s.length:Int)then(x.n,2)
  else if s=[]then(x.n,0)
  else if 4000<fF (qZ x.n.data pos s)\/16<(qZ x.n.data pos s).length then(x.n,13)
  else({x.n with data:=qZ x.n.data pos s,size:=max x.n.size (pos+(s.length:Int))},0)):=by
  unfold gy;rw[if_neg bad]
 by_cases bj:1099511627776-pos<(s.length:Int)
 .rw[J,if_pos bj];refine Uk ?_;exact y0
 rw[if_neg bj]at J;refine Uk ?_;refine gR (t:=37) V fx fx ?_;refine fA ?_;refine fH fx fx (ub aK x ap bQ) (λr m cg=>?_);obtain⟨ar,rfl,Z,bh,v⟩:=cg;have F:=V.ext v;have bY:=al.ext v;have bA:=W.t v;have z4:=v.size;refine fA ?_;refine gx (z:= .agg tH) fE (λdv bv bH dh=>?_);refine fA ?_;refine gY bv fx fx fE fx (fJ (l:=gB ar) (ld.2 (L Z.in))) (λaL aW bN=>?_);have ai:Ext m aL:=bH.trans bN λj D e=>by have:j=m.heap.size:=e;omega
 have z5:=bH.size;have dB:=bN.size;have aX:=F.ext ai;have bZ:=bY.ext ai;have aZ:=bA.t ai;have a7:=Z.ext ai
 by_cases hs0:s=[]
 .rw[if_pos hs0]at J;subst hs0;rw[J]
  repeat' (first|refine gk (op:= .eql) (r:=true) fx fx (by simp[hG]) ?_|refine fT ?_|fail)
  refine gR (t:=37) aW fx fx ?_;refine fA ?_;refine gY bZ fx fx fE fx (fJ (l:=gB ar) (ld.2 (L a7.in))) (λaM ct bO=>?_);have aj:Ext w aM:=aZ.trans bO λj D e=>by have:j=C.heap.size:=e;omega
  have aa:rj aM aK.heap.size ar:=a7.fr bO λb E e=>by have:=a7.f b E;have:b=C.heap.size:=e;omega
  refine fA ?_;exact hL fx fx fx ct fE ⟨ar,rfl,bh,aa.in,(λ_=>aa.mono fy),aj⟩
 rw[if_neg hs0]at J;obtain⟨f1,f2,f3,f4,f5,f6⟩:=(kH x.n).1 an
 have cI:x.n.data.all j3=true:=by
  unfold jV at an;simp only[iU]at an;exact an.1.1.2
 obtain⟨a,rfl⟩:=lZ bf;obtain⟨aO,U⟩:=FA an bf hs0 fy;have c0:max x.n.size ((a:Int)+(s.length:Int))<=1099511627776:=fy;have bd:∀{A7:ip mH},A7.Perm (jJ x.n.data++[(a,s.length)])->BM A7->Iv A7=jJ (qZ x.n.data (a:Int) s):=λH cD=>OG (l:=x.n.data) (pos:=(a:Int)) (s:=s) (λp H=>⟨(f6 p H).2.1,by have:=(f6 p H).2.2;omega,(f6 p H).1⟩) bf hs0 aO (λq hq=>⟨(U q hq).1,(U q hq).2.1⟩) H cD
 have bg:=λq hq=>TH (l:=x.n.data) (pos:=(a:Int)) (s:=s) f5 (λp H=>⟨(f6 p H).2.1,by have:=(f6 p H).2.2;omega⟩) aO (q:=q) hq
 obtain⟨g,cw⟩:∃g,g=qZ x.n.data (a:Int) s:=⟨_,rfl⟩;rw[<-cw]at aO U bd bg J;have c2:=Cz g 0 1099511627776 aO (λq hq=>⟨(U q hq).2.1,by have:=(U q hq).2.2;omega⟩) fy;have c9:(jJ x.n.data).length<=16:=by rw[Gi];omega
 have cP:0<s.length:=rP.2 hs0
 repeat' (first|refine gk (op:= .eql) (r:=false) fx fx (by simp[hG,hs0]) ?_|refine fT ?_|fail)
 refine gR (t:=37) aX fx fx ?_;refine fA ?_;refine fH fx fx (uP aL x (I.ext aZ) cI E fy) (λr aM ch=>?_);obtain⟨aa,aj⟩:=ch;refine Uk ?_;refine fH fx fx (yG aM a s.length fy fy) (λr cW ci=>?_);obtain⟨rfl,rfl⟩:=ci;refine fA ?_;refine FG (vs:=qG (a,s.length)) mW fx fx fU fU (λu hu=>by rw[jS.1 hu];rfl) (λcW bw aB di=>?_);refine jH (news:=qG (a,s.length)) mW fx fU fx (gK.ext aa aB) fx (gQ bw fU fx) fx (λu hu=>by rw[jS.1 hu];rfl) (by unfold maxLen;omega) fy (by have:=aj.size;have:=aB.size;omega) (λv9 aN bV bP dk=>?_);have bW:Ow qG 1 aN aL.heap.size 157 v9 (jJ x.n.data++[(a,s.length)]):=Ow.ext1 (l':=[(a,s.length)]) (by simpa using bV);have a2:Ext aL aN:=Ext.te (aj.t aB) bP λj D e=>by have:=(aa.gO e).1;omega
 refine fA ?_
 refine fH fx fx (Bt aN v9 _ bW.rw (λe he=>by
  rcases iS.1 he with he|he
  .obtain⟨p,H,rfl⟩:=lp.1 he;have h1:=f6 p H;have av:=rP.2 h1.1;unfold gU at h1;dsimp only;omega
  .rw[jS.1 he];dsimp only;omega) iB (by rw[ib,AZ];omega)) (λr aG cd=>?_)
 obtain⟨⟨A7,b5,b0,ak⟩,bC⟩:=cd;rw[bd b5 b0]at ak;have X:=a2.t bC;have dC:=a2.size;clear aa bV bW bP bw aj aB a2 bC bd b5 b0;obtain⟨ad,tU,rfl,c4,c5,bl⟩:=ak.rw.op n0;have cZ:=Gi g;refine fA ?_;refine gC (α:=Nat) (λi=>[(1,.I (a:Int)),(2,.U s),(3,.P w.heap.size),(6,.P C.heap.size),(8,.I ((a:Int)+(s.length:Int))),(9,.P m.heap.size),(10,.slice ad (jJ g).length tU),(11,.I (fF (g.take i):Int)),(54,.slice ad (jJ g).length tU),(55,.I ((jJ g).length:Int)),(56,.I (i:Int))]) (λi w'=>aG=w'/\i<=g.length) (λi=>g.length-i) 0 (sub ⟨rfl,rfl,rfl,rfl,rfl,rfl,rfl,rfl,rfl,rfl,rfl⟩) ⟨rfl,iF _⟩ ?_;rintro i cT ⟨rfl,hi⟩
 by_cases fY:i<g.length
 .obtain⟨b,o,p,rfl,_,be,cF,ba⟩:=bl.at_ (i:=i) fy;obtain⟨q,hq,rfl⟩:=F1 be;have b7:=U q (jT hq);have cK:=nA hq;have hle:=sV g (i+1);have k0:=ba 0 _ rfl;rw[oR,kB]at k0
  repeat' (first|refine kt i (o+i) fx fx fx fx fx fy ?_|refine KH fx k0 ?_|refine fT ?_|fail)
  refine fH fx fx (nc aG q.pos.toNat q.data.length fy) (λr C h1=>?_);obtain⟨rfl,rfl⟩:=h1;refine fA ?_;exact gl ⟨i+1,sub ⟨rfl,rfl,rfl,rfl,rfl,rfl,rfl,km fy,rfl,rfl,rfl⟩,⟨rfl,fY⟩,(by show g.length-(i+1)<g.length-i;omega)⟩
 obtain rfl:i=g.length:=fy;rw[kh];have aw:=aX.ext X;have bn:=aW.ext X;have bX:=bZ.ext X;have aY:=aZ.t X;have dx:=X.size
 by_cases b1:4000<fF g\/16<g.length
 .rw[if_pos b1]at J;rw[J];have b9:=I.ext aY;rcases p9 4000 (fF g)with cG|cG
  .exact y10
  .exact y10
 obtain⟨fin,am⟩:∃fin:Nd,fin={x.n with data:=g,size:=max x.n.size ((a:Int)+(s.length:Int))}:=⟨_,rfl⟩;rw[if_neg b1,<-am]at J;rw[J];have cY:fF g<=4000:=fy;have cX:g.length<=16:=fy;obtain⟨n1,O,Q,ds⟩:=ar;dsimp only at bh;subst bh;have k7:gc aG w.heap.size 7 (.I x.n.size):=aw.cell 7;refine KJ ?_;refine ir bn fx fx fE fx fx (λcT bo bI=>?_);refine fA ?_;refine ir bo fx fx fE fx fx (λM bp bJ=>?_);have cm:fW M m.heap.size 37 (gB ⟨fin,O,Q,.slice none 0 0⟩).toArray:=by rw[am];exact bp
 have a3:Fr (· =m.heap.size) aG M:=bI.t bJ;have ah:Ext m M:=(ai.t X).trans a3 λj D e=>by have:j=m.heap.size:=e;omega
 have bx:=bA.t ah;have cn:=F.ext ah;have z12:=a3.size;refine fA ?_;refine gR (t:=37) cn fx fx ?_;refine fA ?_;refine fH fx fx (ub M x (I.ext bx) bQ) (λr cU ce=>?_);obtain⟨⟨dm,dq,dr,cS⟩,rfl,bR,ca,bD⟩:=ce;dsimp only at ca;subst ca;have a5:Ow kc 2 cU M.heap.size 39 cS x.n.data:=bR.d
 repeat' (first|refine aaj fx fx ?_|refine fT ?_|fail)
 refine oQ (parts:=[(0,.tmp 82),(1,.tmp 83)]) (cells:=(kc ⟨a,s⟩).toArray) (vs:=[(0,.I (a:Int)),(1,.U s)]) fx fE ?_;refine fA ?_;refine nV ks fx fx fU fU (λdt bq ax dd=>?_);refine jH (B:=M.heap.size) (news:=kc ⟨a,s⟩) ks fx fU fx (a5.ext ax) fx (gQ bq fU fx) fx (λu hu=>mh [_] u (by simpa using hu)) (by unfold maxLen;omega) fy (by have:=bD.size;have:=ax.size;omega) (λcR T bS bK _=>?_);obtain⟨P,a9⟩:∃P,P=x.n.data++[(⟨(a:Int),s⟩:hT)]:=⟨_,rfl⟩;have c1:P.length<=17:=by rw[a9,ib,AZ];omega
 have bT:Ow kc 2 T M.heap.size 39 cR P:=by rw[a9];exact Ow.ext1 (l':=[(⟨(a:Int),s⟩:hT)]) (by simpa using bS)
 rw[<-a9]at bg;have S:Ext M T:=Ext.te (bD.t ax) bK λj D e=>by have:=(a5.gO e).1;omega
 have dy:=S.size;have a4:Ow qG 1 M aN.heap.size 157 (.slice ad (jJ g).length tU) (jJ g):=ak.fr a3 λb E e=>by have:=(ak.gO E).1;have:b=m.heap.size:=e;omega
 have cx:=a4.ext S;have co:=cm.ext S;obtain⟨_,_,em,_,_,cj⟩:=cx.rw.op n0;injection em with cb _ cc
 subst cb;subst cc;obtain⟨au,aR,rfl,c6,c7,ck⟩:=bT.rw.op hB;have cH:∀b o,ad=some ⟨b,o,none⟩->b≠m.heap.size:=λb o e=>by subst e;have:=(a4.gO (b:=b) rfl).1;omega
 have cB:∀b o,au=some ⟨b,o,none⟩->b≠m.heap.size:=λb o e=>by subst e;have:=(bT.gO (b:=b) rfl).1;omega
 clear ak bl a4 bS bK bq ax bR a5 bo bI bp bJ bn aw aX aW bv k7;refine fA ?_;refine gC (α:=Nat×i6) (λy=>[(6,.P C.heap.size),(9,.P m.heap.size),(14,.slice au P.length aR),(87,.slice ad (jJ g).length tU),(88,.I ((jJ g).length:Int)),(89,.I (y.1:Int))]) (WrS T m.heap.size fin O Q g) (λy=>g.length-y.1) (0,.slice none 0 0) (sub ⟨rfl,rfl,rfl,rfl,rfl,rfl⟩) ⟨iF _,co,Ow.nil _ _ _,Fr.refl _ _⟩ ?_;rintro⟨i,vd⟩ R ⟨hi,aS,Y,K⟩;dsimp only at hi aS Y K|-;have dz:=K.size
 by_cases fY:i<g.length
 .obtain⟨b,o,p,rfl,_,be,cF,ba⟩:=cj.at_ (i:=i) fy;obtain⟨q,hq,rfl⟩:=F1 be;have b7:=U q (jT hq);have cN:=bg q (jT hq);have cK:=nA hq;have hle:=sV g (i+1);have db:=rP.2 b7.1;have cL:gU q=q.pos+(q.data.length:Int):=rfl;have b8:((q.pos.toNat:Nat):Int)=q.pos:=fy;have k0:=K.cell (ba 0 _ rfl) (cH b o rfl);rw[oR,kB]at k0
  repeat' (first|refine kt i (o+i) fx fx fx fx fx fy ?_|refine KH fx k0 ?_|refine fT ?_|fail)
  refine fH fx fx (kP R q.pos.toNat q.data.length fy) (λr C h1=>?_);obtain⟨rfl,rfl⟩:=h1;rw[b8];refine fA ?_;refine fH fx fx (nc R q.pos.toNat q.data.length fy) (λr C h1=>?_);obtain⟨rfl,rfl⟩:=h1;refine fA ?_;refine WA Qu fx fx fx fy fy fy (λaH ae a0 de=>?_);rw[je]at ae|-;rw[HA]at ae;refine fA ?_;refine gC (α:=Nat) (λj=>[(6,.P C.heap.size),(9,.P m.heap.size),(14,.slice au P.length aR),(16,.complex .f64 (fw q.pos.toNat) (fw q.data.length)),(17,.I q.pos),(18,.S R.heap.size 0 q.data.length q.data.length),(87,.S b o (jJ g).length tU),(88,.I ((jJ g).length:Int)),(89,.I (i:Int)),(98,.slice au P.length aR),(99,.I (P.length:Int)),(100,.I (j:Int))]) (WrC aH R.heap.size q.data.length q.pos (gU q) P) (λj=>P.length-j) 0 (sub ⟨rfl,rfl,rfl,rfl,rfl,rfl,rfl,rfl,rfl,rfl,rfl,rfl⟩) ⟨iF _,ae,Fr.refl _ _⟩ ?_;rintro j N ⟨D,af,aC⟩;have dA:=aC.size;obtain⟨room,ab⟩:∃room,room=oL q.pos (gU q) (P.take j) (List.replicate q.data.length 0):=⟨_,rfl⟩;have dc:room.length=q.data.length:=by rw[ab,sY _ _ _ _ (by rw[Bg];omega),Bg]
  rw[<-ab]at af;have ay:Ext R N:=a0.trans aC λj D e=>by have:j=R.heap.size:=e;omega
  by_cases aF:j<P.length
  .obtain⟨bk,op,p,rfl,c3,b6,c8,cE⟩:=ck.at_ (i:=j) aF;have cJ:∀k u,(kc p)[k]? =some u->gc N bk (op+j*2+k) u:=λk u hu=>ay.cell (K.cell (cE k u hu) (cB bk op rfl))
   repeat' (first|refine gH j (op+j*2) fx fx fx fx fx aF ?_|refine fT ?_|fail)
   refine hV (cs:=kc p) fx fx cJ ?_;refine gx (z:= .agg #[.I 0,.string ⟨#[]⟩]) fE (λcV aT ag cQ=>?_);refine gY (cs:=(kc p).toArray) aT fx fx fx fx (vL p) (λaI aU aD=>?_);have cu:Ext N aI:=Ext.te ag aD λj D e=>by have e':j=N.heap.size:=e;omega
   refine fA ?_;refine FG (vs:=qG (q.pos.toNat,q.data.length)) mW fx fx fU fU (λu hu=>by rw[jS.1 hu];rfl) (λaq aV bF dg=>?_);have bs:=aU.ext bF;have q0:gc aq N.heap.size 0 (.I p.pos):=bs.cell 0;refine fA ?_;refine fH fx fx (Qp aq _ (q.pos.toNat,q.data.length) p.pos (gQ aV fU fx) (by dsimp only;omega) (by dsimp only;omega)) (λr aJ cf=>?_);obtain⟨rfl,bG⟩:=cf;dsimp only;rw[b8,<-cL];have az:Ext N aJ:=(cu.t bF).t bG
   by_cases aE:q.pos<=p.pos/\p.pos<gU q
   .rw[decide_eq_true aE];have bb:=Fr.drew hJ aJ;have cr:=(af.ext az).ext bb;have bt:=(bs.ext bG).ext bb;have dn:gc aJ.drew N.heap.size 0 (.I p.pos):=bt.cell 0;have dp:gc aJ.drew N.heap.size 1 (.U p.data):=bt.cell 1
    repeat' (first|refine rT (p.pos-q.pos).toNat fx fx fx fy fy fy fy ?_|refine fT ?_|fail)
    refine afz cr fx fx fy fy (λdu bu cv=>?_);rw[oR,iM]at bu;refine fA ?_;exact gl ⟨j+1,sub ⟨rfl,rfl,rfl,rfl,rfl,rfl,rfl,rfl,rfl,rfl,rfl,rfl⟩,⟨aF,by rw[AA b6,<-ab];unfold qT OZ;rw[if_pos (decide_eq_true aE)];exact bu,(aC.te (az.t bb)).t cv⟩,(by show P.length-(j+1)<P.length-j;omega)⟩
   .rw[decide_eq_false aE];refine fA ?_;exact gl ⟨j+1,sub ⟨rfl,rfl,rfl,rfl,rfl,rfl,rfl,rfl,rfl,rfl,rfl,rfl⟩,⟨aF,by rw[AA b6,<-ab];unfold qT OZ;rw[if_neg (by rw[decide_eq_false aE];decide)];exact af.ext az,aC.te az⟩,(by show P.length-(j+1)<P.length-j;omega)⟩
  .obtain rfl:j=P.length:=fy;rw[kh]at ab;have cO:room=q.data:=by rw[ab,cN]
   have br:=aS.ext ay;have k8:gc N m.heap.size 8 vd:=br.cell 8;have cy:=Y.ext ay;have dl:(g.take i).length=i:=by rw[kv];omega
   rw[cO]at af;have cM:q.data.length<=maxLen:=by unfold maxLen;omega
   refine fA ?_;refine abS af fx fx cM ?_;refine oQ (parts:=[(0,.tmp 121),(1,.tmp 123)]) (cells:=(kc q).toArray) (vs:=[(0,.I q.pos),(1,.U q.data)]) fx fE ?_;refine fA ?_;refine nV ks fx fx fU fU (λcV aT ag cQ=>?_);have bE:=ay.t ag;refine jH (B:=T.heap.size) (news:=kc q) ks fx fU fx (cy.ext ag) fx (gQ aT fU fx) fx (λu hu=>mh [_] u (by simpa using hu)) (by unfold maxLen;omega) fy (by have:=bE.size;omega) (λv20 aI cz aD _=>?_)
   have a6:Ow kc 2 aI T.heap.size 39 v20 (g.take (i+1)):=by
    rw[j2,hq];exact Ow.ext1 (l':=[q]) (by simpa using cz)
   obtain⟨aP,aQ,rfl,_,_⟩:=a6.form;have aU:fW aI m.heap.size 37 (gB ⟨fin,O,Q,vd⟩).toArray:=(br.ext ag).fr aD λe=>by have:=(Y.gO e).1;omega
   refine fA ?_;refine ir aU fx fx fE fx fx (λaq aV bM=>?_);have cq:fW aq m.heap.size 37 (gB ⟨fin,O,Q,.slice aP (g.take (i+1)).length aQ⟩).toArray:=aV;have cA:Ow kc 2 aq T.heap.size 39 (.slice aP (g.take (i+1)).length aQ) (g.take (i+1)):=a6.fr bM λb E e=>by have:=(a6.gO E).1;have:b=m.heap.size:=e;omega
   refine fA ?_;exact gl ⟨(i+1,.slice aP (g.take (i+1)).length aQ),sub ⟨rfl,rfl,rfl,rfl,rfl,rfl⟩,⟨fY,cq,cA,((K.te bE).trans aD λj D e=>by have:=(Y.gO e).1;omega).t bM⟩,(by show g.length-(i+1)<g.length-i;omega)⟩
 .obtain rfl:i=g.length:=fy;rw[kh]at Y;have b3:∀b,b<m.heap.size->¬b=m.heap.size:=λb E e=>fy
  have a8:rj R aK.heap.size ⟨fin,O,Q,vd⟩:=by
   refine⟨?_,?_,?_⟩
   .have h:=((Z.a.ext ah).ext S).fr K λb E=>b3 b (Z.a.gO E).2
    rw[am];exact h
   .have h:=((Z.c.ext ah).ext S).fr K λb E=>b3 b (Z.c.gO E).2
    rw[am];exact h
   .have h:Ow kc 2 R T.heap.size 39 vd g:=Y;rw[am];exact h.mono fy
  have cC:=((bY.ext ah).ext S).fr K (show ¬C.heap.size=m.heap.size by omega);refine fA ?_;refine gR (t:=37) aS fx fx ?_;refine fA ?_;refine gY cC fx fx fE fx (fJ (l:=gB ⟨fin,O,Q,vd⟩) (ld.2 (L a8.in))) (λaH ae bL=>?_);have a0:Ext w aH:=((bx.t S).trans K λj D e=>by have:j=m.heap.size:=e;omega).trans bL λj D e=>by have:j=C.heap.size:=e;omega
  have bU:rj aH aK.heap.size ⟨fin,O,Q,vd⟩:=a8.fr bL λb E e=>by have:=a8.f b E;have:b=C.heap.size:=e;omega
  refine fA ?_;exact hL fx fx fx ae fE ⟨⟨fin,O,Q,vd⟩,rfl,rfl,bU.in,(λ_=>bU.mono fy),a0⟩
