/- Parts of the proof. -/
import Derived.Test.YtecaahegomdbbaaGreatDoorRmBra
set_option linter.all false
set_option maxRecDepth 99999
set_option maxHeartbeats 0
namespace Go.Proofs.YtecaahegomdbbaaGreatDoor.gr
open Go.Proofs.Tryz
open Go.RowKit
section
attribute [local irreducible] xs T
def AT (bD:MkD) (aX:Sx) (w:i5) (v:i6) (zs:ip Int) (bI:qW w v zs) (s:fL) (aP:EN w):fQ prog 6 #[v,.U s] w λr w'=>r= .bool true/\Ext w w':=by
 refine gP func6 fx fE ?_;have T:∀{a b c:i5} {g:Nat},Ext a b->Fr (· =g) b c->a.heap.size<=g->Ext a c:=λh1 bd b0=>h1.trans bd λj aU e=>absurd aU fy
 by_cases hs:100<s.length
 .refine l4 ?_;refine fI fx fx (aX w aP) ?_;rintro r L ⟨rfl,ae⟩;refine fA ?_;exact fB fx fx ⟨rfl,ae⟩
 have hs:s.length<=100:=fy;refine l4 ?_;refine fI fx fx (bD w v zs bI) (λr L h1=>?_);obtain⟨ve,vn,fO,rfl,V,ae⟩:=h1;have R:=EM (zs.map uN);have bH:=Sz.Cb (zs.map uN);have hlen:=E5 (zs.map uN);have aW:=Nb (zs.map uN);obtain⟨t,ht⟩:∃t,t=Nr (zs.map uN):=⟨_,rfl⟩;rw[<-ht]at V R bH hlen aW;clear ht;obtain⟨bL,bM,bN⟩:=RT (s:=s) aW;have bz:=V;obtain⟨A,c,rfl,_,_,_⟩:=V.e.op gi;obtain⟨N,d,rfl,_,_,_⟩:=V.n.op gw;refine fA ?_;refine gx (z:= .agg #[.slice none 0 0,.slice none 0 0]) fE (λcd bm bq b5=>?_);refine fA ?_;refine gY bm fx fx fE fx (fJ (l:=[.slice A t.es.length c,.slice N fO.length d]) fx) (λB aA bu=>?_);have aD:Ext L B:=T bq bu (gJ _);have aC:=ae.t aD;have au:=bz.ext aD;have z3:L.heap.size<B.heap.size:=aA.lt;refine fA ?_;refine fI fx fx (GA B (.slice none 0 0) 200000 [] (Rw.nil _ _ fU) fU) ?_;rintro r ax ⟨ah,av⟩;rcases av with⟨av,_⟩|⟨_,g,vf,a1,a3,aZ,rfl,E⟩
 .exact absurd fx av
 have E:nJ ax B.heap.size g (oM 0) vf a1 a3 aZ jY:=E;refine fA ?_;refine oQ (cells:=(gB (kV 1)).toArray) fx fE ?_;refine fA ?_;refine fI fx fx (wX ax B.heap.size g (oM 0) vf a1 a3 aZ jY zc (kV 1) E (Wi _ _) (λb u=>absurd u (Xo _ _)) fU fU fU fU) ?_;rintro r bV ⟨rfl,bS,bT,bP,an⟩;rw[ot1.2]at an;rw[ot1.1];have aL:=an.o;refine fA ?_;refine oQ (cells:=(gB (kV 2)).toArray) fx fE ?_;refine fA ?_;refine fI fx fx (wX bV B.heap.size g (oM 1) vf bS bT bP _ GN (kV 2) aL (Wi _ _) (λb u=>absurd u (Xo _ _)) fU fU fU fU) ?_;rintro r bW ⟨rfl,X,Y,bQ,ao⟩;rw[ot2.2]at ao;rw[ot2.1];have aM:=ao.o;refine fA ?_;refine fI fx fx (Af bW B.heap.size g (oM 2) vf X Y bQ _ GN 3 s aM fU fy fU) ?_;rintro r bX ⟨rfl,bR,ap⟩;rw[(ot3 hs).2]at ap;rw[(ot3 hs).1];have aN:=ap.o;refine fA ?_;refine fI fx fx (Du bX B.heap.size g (oM 3) vf X Y bR _ zc 5 aN fU) ?_;rintro r M ⟨rfl,a0,aq⟩;obtain⟨bb,bc,aH⟩:=ot4 hs;rw[bc]at aq;rw[bb];have aO:nJ M B.heap.size g (oM 4) vf X Y a0 (Pw s):=aq.o;have aj:Fr (B.heap.size<=·) ax M:=(((an.low E).t (ao.low aL)).t (ap.low aM)).t (aq.low aN);have aB:fW M L.heap.size 26 #[.slice A t.es.length c,.slice N fO.length d]:=(fW.ext aA ah).fr aj (vI.2 z3);have bA:=(au.ext ah).uZ aj λb u=>vI.2 (au.FF u)
 refine fA ?_;refine gR (t:=26) aB fx fx ?_;refine fA ?_;refine fI fx fx (qF M B.heap.size g (oM 4) vf X Y _ _ a0 fO (Pw s) t aO aH bA (λb u=>au.FF u) R ⟨by decide,by decide⟩) ?_;rintro r a9 ⟨rfl,a2,a4,aw,F⟩;have b6:=TQ hs;obtain⟨p1,p2,J,_⟩:=Hp R aH (Xk (by decide:(0:Int)<=4)) (by show 3+t.es.length<=100;omega) bN (by show((gf (Pw s).ns+gf t.ns:Nat):Int)<=200000;omega);have bG:=PQ R;rw[p1];rw[p2]at F;obtain⟨S,aQ⟩:∃S,S=(mF (oM 4) (Pw s) t).2.2:=⟨_,rfl⟩;rw[<-aQ]at F J;clear aQ;obtain⟨K,aI⟩:∃K,K=(t.es.length-1)+((t.es.length-1)+tw t.ns+5*t.ns.length):=⟨_,rfl⟩;rw[<-aI]at F bG;clear aI;have ak:=J.a.g;obtain⟨f1,f2⟩:=J.a.ol GN bM;obtain⟨d1,d2⟩:=J.a.ol zc bL;have bC:fK S.es GN=some 2:=f1;have bB:fK S.es zc=some 1:=d1;have bF:nodeAt S 2=gA (xS s) 3:=(f2 2 rfl).1;have bE:nodeAt S 1=gA (gz (kN 1) 2) 5:=(d2 1 rfl).1
 have hle:S.es.length=t.es.length+2:=by
  have:=J.a.le λ_ _=>rfl
  have h3:(Pw s).es.length=3:=rfl;omega
 have az:=(hZ ak.f bC).1;have fd:=(hZ ak.f bB).1;have aT:∀{m:hA} {p:fL} {k:Int},kf m->hD S p=(k,0)->pO m S p=0:=λhm h=>by unfold pO;rw[hm.uw,if_pos rfl,h]
 have G:=(Xk (by decide:(0:Int)<=4)).pZ K;have am:=F.o;have bZ:(pZ (oM 4) K).calls=4+(K:Int):=rfl;refine fA ?_;refine fI fx fx (Bm a9 g _ vf a2 a4 aw S GN am.i ⟨G.c,fy⟩) ?_;rintro r a5 ⟨x,rfl,H,C,bv,ai⟩;rw[aT G az]at C|-;rw[if_pos rfl,az]at C;have C:x.n=gA (xS s) 3:=C.trans bF;have al:=am.put ai bv (by rw[G.uw];rfl);rw[G.uw]at al;have ce:=ai.size;refine fA ?_;refine gx (z:= .agg tH) fE (λca be bn b2=>?_);refine gY be fx fx fE fx (fJ (l:=gB x) (ld.2 (iC H.in))) (λa6 bf br=>?_);have af:Ext a5 a6:=T bn br (gJ _);have aJ:=al.ext af;have W:=G.sb;have b1:=al.i.k.lt;refine fA ?_;refine fI fx fx (Bm a6 g _ vf a2 a4 aw S zc aJ.i ⟨W.c,by show 4+(K:Int)+1<=_;omega⟩) ?_;rintro r Z ⟨y,rfl,bK,I,bw,Q⟩;rw[aT W fd]at I|-;rw[if_pos rfl,fd]at I;have I:y.n=gA (gz (kN 1) 2) 5:=I.trans bE;have aK:=aJ.put Q bw (by rw[W.uw];rfl);rw[W.uw]at aK
 have bJ:im Z x:=(H.in.ext af).uZ Q λb u e=>by
  have e:b=g:=e
  have h1:a9.heap.size<=b:=by
   rcases u with u|u|u
   .exact(H.a.gO u.2).1
   .exact(H.c.gO u.2).1
   .exact(H.d.gO u.2).1
  have:=am.i.k.lt;omega
 have bg:=bf.fr Q (show ¬a5.heap.size=g by omega);refine fA ?_;refine gx (z:= .agg tH) fE (λcb bh bo b3=>?_);refine gY bh fx fx fE fx (fJ (l:=gB y) (ld.2 (iC bK.in))) (λa7 bi bs=>?_);have O:Ext Z a7:=T bo bs (gJ _);have bj:=bg.ext O;have b7:=js ((congrArg fG C).trans (kK (Fk hs).2.2.1 fU));refine fA ?_;refine gR (t:=37) bj fx fx ?_;refine fA ?_;refine fI fx fx (JH a7 x 0 200 (bJ.ext O) fy fy fU) ?_;rintro r bU ⟨rfl,ag⟩;rw[C,S2 hs];have bx:=(aK.ext O).ext ag;have aV:=ta ak.f.g;refine fA ?_;refine fI fx fx (wQ bU g _ vf _ _ aw S _ bx.i aV) ?_;rintro r a8 ⟨b8,b9,bO,rfl,ar,aE⟩;have aY:=zp aV;obtain⟨U,aR⟩:∃U,U=jy S.ns (jM S.es):=⟨_,rfl⟩;rw[<-aR]at ar aY;clear aR;obtain⟨ay,qK,rfl,_,_⟩:=ar.e.form;obtain⟨ba,d17,rfl,_,_⟩:=ar.n.form;refine fA ?_;refine gx (z:= .agg #[.slice none 0 0,.slice none 0 0]) fE (λcc bk bp b4=>?_);refine gY bk fx fx fE fx (fJ (l:=[.slice ay U.es.length qK,.slice ba bO.length d17]) fx) (λaa bl bt=>?_);have aF:Ext a8 aa:=T bp bt (gJ _);have aS:∀{a b:i5},Fr (· =g) a b->Fr (B.heap.size<=·) a b:=λh=>h.mono λb _ u=>by have:b=g:=u;have:=E.b;show B.heap.size<=b;omega
 have aG:Fr (B.heap.size<=·) M aa:=(((((((F.low aO).t (aS ai)).te af).t (aS Q)).te O).te ag).te aE).te aF;have ad:Ext w aa:=((aC.t ah).trans (aj.t aG) λj aU u=>by have:B.heap.size<=j:=u;have:=aC.size;omega);refine fA ?_;refine fI fx fx (aX aa (aP.ext ad)) ?_;rintro r ab ⟨rfl,D⟩;have k0:gc ab Z.heap.size 4 (.I y.n.time):=((((fW.ext bi ag).ext aE).ext aF).ext D).cell 4;rw[I]at k0;have k0:gc ab Z.heap.size 4 (.I 5):=k0;have k1:gc ab a8.heap.size 0 (.slice ay U.es.length qK):=(fW.ext bl D).cell 0;have k2:gc ab L.heap.size 0 (.slice A t.es.length c):=(((aB.fr aG (vI.2 z3)).ext D)).cell 0;have bY:U.es.length=t.es.length+2:=aY.trans hle
 by_cases h0:s=[]
 .subst h0;rw[if_pos rfl]
  repeat' (first|refine gk (op:= .eql) (a:=[]) (b:=[]) (r:=true) fx fx (by simp[hG]) ?_|refine fT ?_|fail)
  exact fB fx fx ⟨rfl,ad.t D⟩
 .rw[if_neg h0]
  repeat' (first|refine gk (op:= .eql) (a:=s) (b:=[]) (r:=false) fx fx (by simp[hG,h0]) ?_|refine qN (a:=[0,0,0]) (b:=s) fx fx (by show 3+s.length<=_;omega) ?_|refine gk (op:= .eql) (a:=[0,0,0]++s) (b:=[0,0,0]++s) (r:=true) fx fx (by simp[hG]) ?_|refine fT ?_|fail)
  exact fB fx fx ⟨rfl,ad.t D⟩
