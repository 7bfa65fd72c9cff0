/- Parts of the proof. -/
import Derived.Test.YtecaahegomdbbaaGreatDoorRmB10c
import Derived.Test.YtecaahegomdbbaaGreatDoorRmB11
set_option linter.all false
set_option maxRecDepth 99999
set_option maxHeartbeats 0
namespace Go.Proofs.YtecaahegomdbbaaGreatDoor.gr
open Go.Proofs.Tryz
open Go.RowKit
variable {l:ip gG} {a:Nat} {w:i5} {u:fZ}
section
theorem DA:∀(l:ip gG) (i:Nat) (x:gG) (z:Int),l[i]? =some x->(l.flatMap gB).set (i*12+4) (.I z)=(l.set i ⟨gA x.n z,x.va,x.vc,x.vd⟩).flatMap gB
 |[],i,_,_,h=>by cases h
 |y::l,0,x,z,h=>by
  obtain rfl:y=x:=jb h;rfl
 |y::l,i+1,x,z,h=>by
  have e:(i+1)*12+4=(gB y).length+(i*12+4):=by rw[gw];omega
  rw[tu,e,Lz _ _ fy,Ia,DA l i x z h,W0,tu]
def Ll {v:i6} (h:Rw gB w v l):∃A c,v= .slice A l.length c/\Row w (.slice A l.length c) l.length (l.flatMap gB)/\l.length<=maxLen:=by
 have h0:=h;obtain⟨A,c,rfl,h1,d,_⟩:=h0;exact⟨A,c,rfl,h,ly h1 d⟩
structure ZD (u:fZ) (g:Nat) (ve:Value) (w0:World) (nv:Value) (fO:List gG) (w':World):Prop where
 b:fW w' g 26 #[ve,nv]
 r:Rw gB w' nv fO
 i:∀x∈fO,im w' x
 a:TD u (fO.map (·.n))
 f:Fr (· =g) w0 w'
 k:∀x∈fO,∀b,Vx x b->b≠g
structure Za (u:fZ) (w0:World) (y:Nat×Value×Value×List gG) (w':World):Prop where
 e:Ext w0 w'
 g:w0.heap.size<=y.1
 b:fW w' y.1 26 #[y.2.1,y.2.2.1]
 t:mE w' y.2.1 y.2.2.1 y.2.2.2 u
 n:∀b,Mx y.2.1 y.2.2.1 y.2.2.2 u b->b≠y.1
def Za.of {w0 f g:i5} {ve vn:i6} (t:Ext w0 f) (v:w0.heap.size<=a) (n:∀b,Mx ve vn l u b->b≠a) (ht:mE f ve vn l u) (d:fW g a 26 #[ve,vn]) (m:Fr (· =a) f g):Za u w0 (a,ve,vn,l) g:=
 ⟨t.trans m λj w e=>by have:j=a:=e;omega,v,d,ht.uZ m λb d e=>n b d e,n⟩
def Be {α:Type} {g:α->ip i6} {v:i6} {l:ip α} {b:Nat} (h:Rw g w v l) (n:fW w a 26 #[.slice none 0 0,.slice none 0 0]) (t:∀x,∃f,(g x)[0]? =some f/\f≠ .slice none 0 0) (hk:Sq v l b):b≠a:=λe=>by
 obtain⟨A,c,rfl,_,_,h3⟩:=h;obtain⟨b',o,rfl,_,m⟩:=h3 hk.1;obtain rfl:b'=b:=jb hk.2;subst e;cases l with
 |nil=>exact absurd hk.1 (Q3 0)
 |cons x r=>
  obtain⟨f,f1,f2⟩:=t x;have d:=m 0 f (by rw[tu,rk (by rcases hc:g x with _|⟨y,ys⟩<;>simp_all)];exact f1);rw[kB,n.cell]at d;rcases o with _|_|o
  .exact f2 (jb d).symm
  .exact f2 (jb d).symm
  .cases d
def Si {ve vn:i6} {b:Nat} (h:mE w ve vn l u) (f:fW w a 26 #[.slice none 0 0,.slice none 0 0]) (hk:Mx ve vn l u b):b≠a:=by
 rcases hk with hk|hk|⟨x,g,hk|hk|hk⟩
 .exact Be h.e f (λx=>⟨_,rfl,by simp⟩) hk
 .exact Be h.n f (λx=>⟨_,rfl,by simp⟩) hk
 .exact Be (h.i x g).a f (λx=>⟨_,rfl,by simp⟩) hk
 .exact Be (h.i x g).c f (λx=>⟨_,rfl,by simp⟩) hk
 .exact Be (h.i x g).d f (λx=>⟨_,rfl,by simp⟩) hk
theorem TD.len (h:TD u (l.map (·.n))):l.length=u.ns.length:=by have:=h.l;rwa[jv]at this
def ZD.set {u:fZ} {g m c:Nat} {ve v0:i6} {w0 w t:i5} {l:ip gG} {i:Nat} {x x':gG} {z:Int} (h:ZD u g ve w0 v0 l w) (E:l[i]? =some x) (F:0<=z/\z<99) (C:x'.n=Ym z x.n) (B:Fr (λb=>b=g\/b=m) w t) (G:w0.heap.size<=m) (H:w.heap.size<=m) (v:fW t g 26 #[ve,.S m 0 l.length c])
  (D:Rw gB t (.S m 0 l.length c) (l.set i x')) (hi:im t x') (hk:∀b,Vx x' b->b≠g):ZD u g ve w0 (.S m 0 l.length c) (l.set i x') t:=by
 refine⟨v,D,λy d=>?_,?_,h.f.trans B λj I e=>e.elim id λe=>fy,λy d=>?_⟩
 .rcases x3 d with d|rfl
  .exact(h.i y d).uZ B λb v e=>e.elim (h.k y d b v) λe=>by have:=(h.i y d).FF v;omega
  .exact hi
 .rw[vz,C];exact h.a.step (by rw[qX,E];rfl) F
 .rcases x3 d with d|rfl
  .exact h.k y d
  .exact hk
attribute [local irreducible] xs T
def BG (cP:MkD) (cW:Sx) (w:i5) (v:i6) (zs:ip Int) (cZ:qW w v zs) (av:Int) (cc:i6) (a5:ip Int) (c0:qW w cc a5) (cw:EN w):fQ prog 5 #[v,.I av,cc] w λr w'=>r= .bool true/\Ext w w':=by
 refine kg func5 fx fE ?_;have ct:∀{a b c:i5} {g:Nat},Ext a b->Fr (· =g) b c->a.heap.size<=g->Ext a c:=λh1 a9 dt=>h1.trans a9 λj aJ e=>absurd aJ fy
 obtain⟨bv,bw,rfl,dw,dx,cf⟩:=c0;refine fA ?_;refine fI fx fx (cP w v zs cZ) (λr a2 h1=>?_);obtain⟨ve,vn,fO,rfl,aW,ck⟩:=h1;have J:=EM (zs.map uN);have cX:=Sz.Cb (zs.map uN);have hlen:=E5 (zs.map uN);obtain⟨t,ht⟩:∃t,t=Nr (zs.map uN):=⟨_,rfl⟩;rw[<-ht]at aW J cX hlen;clear ht;have cy:=aW;have dv:=zF J;have dy:=yt J;obtain⟨dH,dI,bp⟩:=Em J;obtain⟨A,c,rfl,dq,dr,ce⟩:=aW.e.op gi;obtain⟨N,d,rfl,_,_,_⟩:=aW.n.op gw;refine fA ?_;refine gx (z:= .agg #[.slice none 0 0,.slice none 0 0]) fE (λdU cj cm dA=>?_);refine fA ?_;refine gY cj fx fx fE fx (fJ (l:=[.slice A t.es.length c,.slice N fO.length d]) fx) (λQ bb cq=>?_);have az:Ext a2 Q:=ct cm cq (gJ _);have bH:=ck.t az;have bR:=cy.ext az;have z3:a2.heap.size<Q.heap.size:=bb.lt;obtain⟨g3,cK⟩:∃g3,g3=a2.heap.size:=⟨_,rfl⟩;rw[<-cK]at bb z3|-;have ap:∀w',fW w' g3 26 #[.slice A t.es.length c,.slice N fO.length d]->∀j u,[Value.slice A t.es.length c,.slice N fO.length d][j]? =some u->w'.cell? ⟨g3,0+j,none⟩=some u:=λw' h j u hu=>by rw[iM,h.cell,po];exact hu
 refine fA ?_;refine fI fx fx (GA Q (.slice none 0 0) 200000 [] (Rw.nil _ _ fU) fU) ?_;rintro r ar ⟨aR,Y⟩;rcases Y with⟨Y,_⟩|⟨_,g,vf,b9,cb,b5,rfl,aV⟩
 .exact absurd fx Y
 have aV:nJ ar Q.heap.size g (pM 200000) vf b9 cb b5 jY:=aV;have cI:=Fr.drew hJ ar;have aB:Ext ar ar.drew:=cI;have bc:=(fW.ext bb aR).ext aB;have aE:=aV.ext aB;have bk:=(bR.ext aR).ext aB;have aK:∀b,Mx (.slice A t.es.length c) (.slice N fO.length d) fO t b->b<Q.heap.size:=λb D=>bR.FF D
 obtain⟨p1,p2,a0,dd,b6,b7,bq⟩:=Re J (Qx 200000) fy (by show(gf t.ns:Int)<=200000;omega);have cV:=PQ J;refine fA ?_;refine lk [21,27,34] (λw'=>fW w' g3 26 #[.slice A t.es.length c,.slice N fO.length d]) fE (by decide+kernel) bc ?_;refine fA ?_;refine sf (cs:=[.slice A t.es.length c,.slice N fO.length d]) fx fE ap ?_;refine fA ?_
 refine fI fx fx (qF ar.drew Q.heap.size g (pM 200000) vf b9 cb _ _ b5 fO jY t aE (hv sU) bk aK J (ZB _)) ?_ (λr w' h=>by
  obtain⟨_,_,_,_,h⟩:=h
  exact bc.fr h.f (aE.not z3))
 rintro r dj ⟨rfl,dg,dh,c9,ae⟩;have bK:=ae.low aE;have bA:=bc.fr ae.f (aE.not z3);have cC:=bk.uZ bK λb D=>vI.2 (aK b D)
 rw[p1];rw[p2]at ae;obtain⟨K,bN⟩:∃K,K=(t.es.length-1)+((t.es.length-1)+tw t.ns+5*t.ns.length):=⟨_,rfl⟩;rw[<-bN]at ae cV;obtain⟨a6,aG⟩:∃S,S=(mF (pM 200000) jY t).2.2:=⟨_,rfl⟩;rw[<-aG]at ae a0 b6 b7 bq;clear aG bN dd;have aF:=ae.o;have bX:=(Qx 200000).pZ K;have ds:(pZ (pM 200000) K).calls=0+(K:Int):=rfl;obtain⟨q1,⟨c6,q2,q3⟩,_,q4⟩:=G7 J bX a0 bq fy (by show((gf a6.ns+gf t.ns:Nat):Int)<=200000;omega);refine fA ?_;refine sf (cs:=[.slice A t.es.length c,.slice N fO.length d]) fx fE ap ?_;refine fA ?_
 refine fI fx fx (qF dj Q.heap.size g _ vf dg dh _ _ c9 fO a6 t aF a0 cC aK J ⟨bX.c,fy⟩) ?_ (λr w' h=>by
  obtain⟨_,_,_,_,h⟩:=h
  exact bA.fr h.f (aF.not z3))
 rintro r dk ⟨rfl,dO,dS,da,aH⟩;have bL:=bK.t (aH.low aF);have bB:=bA.fr aH.f (aF.not z3);have bS:=bk.uZ bL λb D=>vI.2 (aK b D)
 rw[q1];obtain⟨cd,aG⟩:∃S,S=(mF (pZ (pM 200000) K) a6 t).2.2:=⟨_,rfl⟩;rw[<-aG]at aH q4;clear aG;have bP:=aH.o;refine fA ?_;refine fI fx fx (wQ dk g _ vf _ _ da cd t bP.i q4) ?_ (λr w' h=>by obtain⟨_,_,_,_,_,h⟩:=h;exact bB.ext h);rintro r dl ⟨dP,dT,db,rfl,bT,aS⟩;have bC:=bB.ext aS;refine fA ?_;refine sf (cs:=[.slice A t.es.length c,.slice N fO.length d]) fx fE ap ?_;refine fA ?_;refine fI fx fx (zV dl _ _ _ _ db fO t t bT.v (bS.ext aS)) ?_ (λr w' h=>bC.ext h.2);rintro r E ⟨rfl,be⟩;rw[Gs];have bD:=bC.ext be;have aX:=(bS.ext aS).ext be;have bM:=(bL.te aS).te be;have bI:Ext w E:=((bH.t aR).t aB).trans bM λj aJ D=>by have:Q.heap.size<=j:=D;have:=bH.size;omega
 have cn:Ext Q ar.drew:=aR.t aB;have aU:Fr (Q.heap.size<=·) Q E:=cn.fr.t bM;clear aV aE aF bP ae aH bT p1 p2 a0 b6 b7 bq q1 q2 q4;have dC:=RY av;obtain⟨k,hk⟩:∃k,k=uN av% t.es.length:=⟨_,rfl⟩;have pA:k<t.es.length:=hk▸rE _ fy;have cO:((uN av:Nat):Int)% (t.es.length:Int)=(k:Int):=by rw[hk];exact(HQ _ _).symm
 obtain⟨b,o,e,rfl,D,he,_,cG⟩:=ce.at_ pA;have bU:=jT he;obtain⟨u,a1,br,dL,de⟩:=vJ J ⟨e,bU,rfl⟩;have bZ:gc a2 b (o+k*2+0) (.U e.path):=cG 0 _ rfl;have cS:=kO ((hv J).f.g.path e bU);obtain⟨p,cR⟩:∃p,p=e.path:=⟨_,rfl⟩;rw[<-cR]at a1 bZ cS;have hH:∀w',Fr (E.heap.size<=·) E w'->fW w' g3 26 #[.S b o t.es.length c,.slice N fO.length d]/\gc w' b (o+k*2+0) (.U p):=λw' X=>⟨bD.fr X (vI.2 (by have:=aU.size;omega)),X.cell (aU.cell (az.cell bZ) (show ¬Q.heap.size<=b by have:=az.size;omega)) (show ¬E.heap.size<=b by have:=az.size;have:=aU.size;omega)⟩
 refine fA ?_;refine p5 (α:=Nat×i6×i6×ip gG) (λy=>[(2,.slice bv a5.length bw),(7,.P g3),(9,.P y.1),(10,.I 0)]) (Za u E) ?_ ?_
 .have aA:Ext E E.drew:=Fr.drew hJ E;refine Ya 21 [39,41,45,51] (λw'=>fW w' g3 26 #[.S b o t.es.length c,.slice N fO.length d]/\gc w' b (o+k*2+0) (.U p)) fx fE (by decide+kernel) (hH _ (Ext.fr aA)) (λao=>?_);refine UY [0,1,2,3,4,5,6,7,8,9,10,11,12] [13,14,15,16,17,18,19,20] ao (by decide+kernel) (by decide+kernel) fx ?_
  repeat' (first|refine pG fx fx (λw' h=>h.1.cell 0) ?_|refine pG fx fx (λw' h=>h.2) ?_|refine sf (cs:=[.S b o t.es.length c,.slice N fO.length d]) fx fE (λw' h=>ap w' h.1) ?_|refine xcv (r:=((uN av:Nat):Int)) fx fx fx (Ph av) ?_|refine gH k (o+k*2) fx fx fx cO fx pA ?_|refine pY ?_|fail)
  refine Z7 13 18 [14,15,16,17,18,19,20] [13,14,15,16,17,19,20] ao (by decide+kernel) fx fx fx fx ?_ ?_
  rotate_left
  .refine gx (z:= .agg #[.slice none 0 0,.slice none 0 0]) fE (λa4 ax V b0=>?_) (λw' he=>hH _ (Ext.fr (aA.t he)));have z0:E.drew.heap.size=E.heap.size:=rfl;have I:Ext E a4:=aA.t V;refine fA ?_;refine UY [13,14,15,16,17,19,20] [] ao (by decide+kernel) (by decide+kernel) fx ?_;refine FG (vs:=[.U p]) j5 fx fx fU fU (λu hu=>by rw[jS.1 hu];rfl) (λau aN ai cT=>?_) (λw' he=>hH _ (Ext.fr (I.t he)));refine fI fx fx (sj au _ _ _ fO t [p] (aX.ext (I.t ai)) (gQ (n:=1) aN fU fx) bp fy (λq hq=>by rw[jS.1 hq];omega)) ?_ (λr w' h=>hH _ (Ext.fr ((I.t ai).t h.1)));rintro r ag ⟨ab,R⟩;rw[a1]at R;dsimp only at R;obtain⟨bs,bu,l10,rfl,H⟩:=R;obtain⟨T,cU,rfl,_,_,_⟩:=H.e.op gi;obtain⟨Z,tU,rfl,_,_,_⟩:=H.n.op gw;have U:Ext E ag:=(I.t ai).t ab;have ay:=(fW.ext ax ai).ext ab;refine fA ?_;refine gY (ay) fx fx fE fx (fJ (l:=[.slice T u.es.length cU,.slice Z l10.length tU]) fx) (λaq W aC=>?_) (λw' X=>hH _ ((Ext.fr U).t (X.mono λj _ e=>by have:j=E.drew.heap.size:=e;show E.heap.size<=j;omega)));refine fA ?_;refine EE ?_;exact gl ⟨(E.drew.heap.size,_,_,l10),sub ⟨rfl,rfl,rfl,rfl⟩,Za.of U fy (λx F=>Si H ay F) H W aC⟩
  refine FG (vs:=[.U p]) j5 fx fx fU fU (λu hu=>by rw[jS.1 hu];rfl) (λau aN ai cT=>?_) (λw' he=>hH _ (Ext.fr (aA.t he)));have I:Ext E au:=aA.t ai;refine fA ?_;refine Z7 14 18 [15,16,17,18,19,20] [14,15,16,17,19,20] ao (by decide+kernel) fx fx fx fx ?_ ?_
  rotate_left
  .refine gx (z:= .agg #[.slice none 0 0,.slice none 0 0]) fE (λa4 ax V b0=>?_) (λw' he=>hH _ (Ext.fr (I.t he)));have z0:=I.size;refine fA ?_;refine UY [14,15,16,17,19,20] [] ao (by decide+kernel) (by decide+kernel) fx ?_;refine fI fx fx (sj a4 _ _ _ fO t [p] (aX.ext (I.t V)) (gQ (n:=1) (fW.ext aN V) fU fx) bp fy (λq hq=>by rw[jS.1 hq];omega)) ?_ (λr w' h=>hH _ (Ext.fr ((I.t V).t h.1)));rintro r ag ⟨ab,R⟩;rw[a1]at R;dsimp only at R;obtain⟨bs,bu,l10,rfl,H⟩:=R;obtain⟨T,cU,rfl,_,_,_⟩:=H.e.op gi;obtain⟨Z,tU,rfl,_,_,_⟩:=H.n.op gw;have U:Ext E ag:=(I.t V).t ab;have ay:=fW.ext ax ab;refine fA ?_;refine gY (ay) fx fx fE fx (fJ (l:=[.slice T u.es.length cU,.slice Z l10.length tU]) fx) (λaq W aC=>?_) (λw' X=>hH _ ((Ext.fr U).t (X.mono λj _ e=>by have:j=au.heap.size:=e;show E.heap.size<=j;omega)));refine fA ?_;refine EE ?_;exact gl ⟨(au.heap.size,_,_,l10),sub ⟨rfl,rfl,rfl,rfl⟩,Za.of U z0 (λx F=>Si H ay F) H W aC⟩
  refine fI fx fx (sj au _ _ _ fO t [p] (aX.ext (I)) (gQ (n:=1) aN fU fx) bp fy (λq hq=>by rw[jS.1 hq];omega)) ?_ (λr w' h=>hH _ (Ext.fr ((I).t h.1)));rintro r ag ⟨ab,R⟩;rw[a1]at R;dsimp only at R;obtain⟨bs,bu,l10,rfl,H⟩:=R;obtain⟨T,cU,rfl,_,_,_⟩:=H.e.op gi;obtain⟨Z,tU,rfl,_,_,_⟩:=H.n.op gw;have U:Ext E ag:=I.t ab;refine fA ?_;refine UY [15,16,17,18,19,20] [] ao (by decide+kernel) (by decide+kernel) fx ?_;refine fA ?_;refine gx (z:= .agg #[.slice none 0 0,.slice none 0 0]) fE (λa4 ax V b0=>?_) (λw' he=>hH _ (Ext.fr (U.t he)));have z0:=U.size;refine gY (ax) fx fx fE fx (fJ (l:=[.slice T u.es.length cU,.slice Z l10.length tU]) fx) (λaq W aC=>?_) (λw' X=>hH _ ((Ext.fr (U.t V)).t (X.mono λj _ e=>by have:j=ag.heap.size:=e;show E.heap.size<=j;omega)));refine fA ?_;refine EE ?_;exact gl ⟨(ag.heap.size,_,_,l10),sub ⟨rfl,rfl,rfl,rfl⟩,Za.of (U.t V) z0 (λx F=>by have:=H.FF F;omega) (H.ext V) W aC⟩
 rintro⟨g9,bs,bu,l10⟩ aq cx;obtain⟨bf,cL,W,af,bn⟩:=cx;dsimp only at cL W af bn|-;obtain⟨T,cU,rfl,_,_,_⟩:=af.e.op gi;obtain⟨Z,tU,rfl,_,_,_⟩:=af.n.op gw;have z12:g9<aq.heap.size:=W.lt;have bE:=bI.t bf;have cg:=bD.ext bf;have cz:=aX.ext bf;have dV:=aU.size;have cQ:¬g3=g9:=fy;have dG:=bI.size;refine gz2 ?_;refine p5 (α:=i6×ip gG) (λ_=>[(7,.P g3),(9,.P g9)]) (λy w'=>ZD u g9 (.slice T u.es.length cU) aq y.1 y.2 w') ?_ ?_
 .refine fA ?_;refine gC (α:=Nat×i6×ip gG) (λx=>[(2,.slice bv a5.length bw),(7,.P g3),(9,.P g9),(11,.I (x.1:Int))]) (λx w'=>ZD u g9 (.slice T u.es.length cU) aq x.2.1 x.2.2 w') (λx=>u.ns.length-x.1) (0,.slice Z l10.length tU,l10) (sub ⟨rfl,rfl,rfl,rfl⟩) ⟨W,af.n,af.i,by rw[af.m];exact TD.start br,Fr.refl _ _,λx F b D=>bn b (.inr (.inr ⟨x,F,D⟩))⟩ ?_;rintro⟨i,nv,nl⟩ G C;dsimp only at C|-;have cr:=C.a.len;obtain⟨aM,cN,rfl,cu,dn⟩:=Ll C.r;have m1:gc G g9 1 (.slice aM nl.length cN):=C.b.cell 1
  by_cases h1:i<nl.length
  case neg=>
   refine fA ?_;exact gl ⟨(_,nl),sub ⟨rfl,rfl⟩,C⟩
  by_cases a9:i<a5.length
  case neg=>
   refine fA ?_;exact gl ⟨(_,nl),sub ⟨rfl,rfl⟩,C⟩
  obtain⟨a7,dc,z,rfl,dp,dF,cF,_⟩:=pn cf a9;have dm:=C.f.size;refine fA ?_;refine abZ mi (λah aD ad dz=>?_);have m14:gc ah g9 1 (.slice aM nl.length cN):=ad.cell m1;refine fA ?_
  refine jH (B:=G.heap.size) (news:=nl.flatMap gB) mi fx fU fx aD fx (cu.ext ad) (by rw[gn gw]) (λu hu=>by
   obtain⟨y,aZ,hu⟩:=xk.1 hu
   exact iC (C.i y aZ) u hu) (by unfold maxLen at*;omega) (by have:=zF br;omega) fy (λdf a3 am cp _=>?_)
  have bh:Ow gB 12 a3 G.heap.size 37 df nl:=by
   have:=am;rw[iM,tz]at this;exact this
  obtain⟨O,aw,rfl,bV,du,_,_,cH⟩:=gK.go bh fy;have bJ:Ext G a3:=ad.trans cp λj aJ e=>by have:G.heap.size=j:=jb e;omega
  refine fA ?_;refine ir (C.b.ext bJ) fx fx fE fx fx (λM aa aj=>?_);have aa:fW M g9 26 #[.slice T u.es.length cU,.S O 0 nl.length aw]:=aa;have cv:Ow gB 12 M G.heap.size 37 (.S O 0 nl.length aw) nl:=bh.fr aj λb D e=>by have:=(bh.gO D).1;have:b=g9:=e;omega
  obtain⟨x,F⟩:∃x,nl[i]? =some x:=⟨_,j9 h1⟩;have bo:=jT F;have aQ:Ext M M.drew:=Fr.drew hJ M;have aT:Fr (· =g9) G M.drew:=(bJ.fr.t aj).te aQ;have k0:gc M O (i*12+0) (.I x.n.kind):=aj.cell (cH _ _ (flat_get gw F (j:=0) rfl)) (show ¬O=g9 by omega);have q1:gc M g9 1 (.S O 0 nl.length aw):=aa.cell 1;have dJ:gc M.drew g9 1 (.S O 0 nl.length aw):=aQ.cell q1;have dK:gc M.drew a7 (dc+i) (.I z):=aT.cell (C.f.cell (Ext.cell bE cF) (show ¬a7=g9 by omega)) (show ¬a7=g9 by omega);have dE:=RY z;obtain⟨y,aZ⟩:∃y:Int,y=((uN z:Nat):Int)% 99:=⟨_,rfl⟩;have b3:0<=y/\y<99:=fy;have bm:∀{a b:i5},Fr (· =g9) a b->Fr (λb=>b=g9\/b=O) a b:=λh=>h.mono λ_ _ e=> .inl e
  have bl:∀{a b:i5},Fr (· =O) a b->Fr (λb=>b=g9\/b=O) a b:=λh=>h.mono λ_ _ e=> .inr e
  have bz:=aa.ext aQ;have bO:=cv.ext aQ
  by_cases bW:x.n.kind=2
  .refine abM ?_;rw[<-aZ];refine oQ (cells:= #[.I 7,.I 0,.I 0,.I 0,.slice none 0 0,.slice none 0 0]) fx fE ?_;refine oQ (cells:=(gB ⟨⟨2,7,0,0,0,[],[],y,[],[],0,0⟩,.slice none 0 0,.slice none 0 0,.slice none 0 0⟩).toArray) fx (by first|rfl|kernel_rfl) ?_
   repeat' (first|refine gH i (i*12) fx fx fx fx fy h1 ?_|refine fT ?_|fail)
   have bY:∀w':i5,im w' ⟨⟨2,7,0,0,0,[],[],y,[],[],0,0⟩,.slice none 0 0,.slice none 0 0,.slice none 0 0⟩:=λw'=>⟨Rw.nil _ _ fU,Rw.nil _ _ fU,Rw.nil _ _ fU⟩
   refine F8 gw i bO fx fx fx fE (iC (bY M)) h1 (λaL an ak=>?_);have bg:=C.set (x':=⟨⟨2,7,0,0,0,[],[],y,[],[],0,0⟩,.slice none 0 0,.slice none 0 0,.slice none 0 0⟩) F b3 (by unfold Ym;rw[if_pos bW]) ((bm aT).t (bl ak)) fy bV (bz.fr ak (show ¬g9=O by omega)) (by have:=an.rw;exact this) (bY _) (λb D=>by rcases D with D|D|D<;>exact absurd D.1 (by show ¬0<0;decide));exact y38
  .refine abM ?_;rw[<-aZ];refine abm (q:=i*12+4) bO fx fx fE fx (by rw[gn gw];omega) (λaL an ak=>?_);rw[DA nl i x y F]at an
   have an:Ow gB 12 aL G.heap.size 37 (.slice (some ⟨O,0,none⟩) nl.length aw) (nl.set i ⟨gA x.n y,x.va,x.vc,x.vd⟩):=by
    unfold Ow;rw[nS];exact an
   have b2:=C.i x bo
   have c3:im aL ⟨gA x.n y,x.va,x.vc,x.vd⟩:=by
    have h:=b2.uZ ((bm aT).t (bl ak)) λb D e=>e.elim (C.k x bo b D) λe=>by have:=b2.FF D;omega
    exact⟨h.a,h.c,h.d⟩
   have bg:=C.set (x':=⟨gA x.n y,x.va,x.vc,x.vd⟩) F b3 (by unfold Ym;rw[if_neg bW]) ((bm aT).t (bl ak)) fy bV (bz.fr ak (show ¬g9=O by omega)) (by have:=an.rw;exact this) c3 (C.k x bo);exact y38
 .rintro⟨nv,nl⟩ G C;dsimp only at C|-;have cr:=C.a.len;obtain⟨aM,cN,rfl,_,_⟩:=Ll C.r;obtain⟨L,aY⟩:∃L:fZ,L=⟨u.es,nl.map (·.n)⟩:=⟨_,rfl⟩;have al:gM L=true:=by rw[aY];exact Pt br C.a.l C.a.k C.a.n
  have cD:mE G (.slice T u.es.length cU) (.slice aM nl.length cN) nl L:=by
   rw[aY];exact⟨af.e.uZ C.f λb D e=>bn b (.inl D) e,C.r,C.i,rfl⟩
  have b1:L.es=u.es:=by rw[aY]
  have cY:L.es.length<=26:=by rw[b1];omega
  have dD:=zF al;have dB:=TW al cY
  have cM:∀e∈L.es,∃x∈t.es,x.path=e.path/\(fV L.ns e.node=1↔fV t.ns x.node=1):=λe he=>by
   rw[b1]at he;obtain⟨x,F,c2,c1⟩:=de e he;refine⟨x,F,c2,?_⟩;rw[aY];show fV (nl.map (·.n)) e.node=1↔_
   rw[C.a.k,c1]
  obtain⟨c4,c5,_⟩:=Em al
  have cJ:nP 200000 L=0:=by
   unfold nP;rw[al,if_neg (λaI=>by rcases aI with aI|aI|aI<;>first|omega|cases aI),if_neg fy]
  have cE:=C.b;have ch:=cg.fr C.f cQ;have bj:=cz.uZ C.f λb D e=>by have:=aK b D;have:b=g9:=e;omega
  have bF:Ext w G:=bE.trans C.f λj aJ e=>by have:j=g9:=e;omega
  have dm:=C.f.size;refine fA ?_;refine gR (t:=26) cE fx fx ?_;refine fA ?_;refine fI fx fx (DY G _ _ (.slice none 0 0) nl L 200000 [] cD (Rw.nil _ _ fU) c5 c4 fy fy fU) ?_;rintro r ah ⟨q,rfl,ad,Y⟩;rw[cJ]at Y|-;rcases Y with⟨Y,_⟩|⟨_,a8,bt,b8,ca,b4,rfl,aD⟩
  .exact absurd fx Y
  have aD:nJ ah G.heap.size a8 (pM 200000) bt b8 ca b4 L:=aD;have aO:Ext ah ah.drew:=Fr.drew hJ ah;have ba:=(ch.ext ad).ext aO;have bG:=(bF.t ad).t aO;obtain⟨r1,⟨A0,r2,r3⟩,_,r4⟩:=G7 J (Qx 200000) (hv al) cM fy (by show((gf L.ns+gf t.ns:Nat):Int)<=200000;omega);refine fA ?_;refine lk [125,132] (λw'=>fW w' g3 26 #[.S b o t.es.length c,.slice N fO.length d]) fE (by decide+kernel) ba ?_;refine fA ?_;refine fI fx fx (cW ah.drew (cw.ext bG)) ?_ (λr w' h=>ba.ext h.2);rintro r a3 ⟨rfl,aP⟩;have bx:=ba.ext aP;have bQ:=((bj.ext ad).ext aO).ext aP;have am:=(aD.ext aO).ext aP;refine fA ?_;refine sf (cs:=[.S b o t.es.length c,.slice N fO.length d]) fx fE ap ?_;refine fA ?_
  refine fI fx fx (qF a3 G.heap.size a8 (pM 200000) bt b8 ca _ _ b4 fO L t am (hv al) bQ (λb D=>bj.FF D) J (ZB _)) ?_ (λr w' h=>by
   obtain⟨_,_,_,_,h⟩:=h
   exact bx.fr h.f (am.not fy))
  rintro r M ⟨rfl,dM,dQ,c7,bi⟩;have aj:=bi.low am;have aa:=bx.fr bi.f (am.not fy);have cA:=bQ.uZ aj λb D=>vI.2 (bj.FF D)
  rw[r1];refine fA ?_;refine fI fx fx (wQ M a8 _ bt _ _ c7 _ t bi.o.i r4) ?_ (λr w' h=>by obtain⟨_,_,_,_,_,h⟩:=h;exact aa.ext h);rintro r aL ⟨dN,dR,c8,rfl,cB,bd⟩;have ci:=aa.ext bd;refine fA ?_;refine sf (cs:=[.S b o t.es.length c,.slice N fO.length d]) fx fE ap ?_;refine fA ?_;refine fI fx fx (zV aL _ _ _ _ c8 fO t t cB.v (cA.ext bd)) ?_ (λr w' h=>ci.ext h.2);rintro r di ⟨rfl,cl⟩;rw[Gs];have co:Ext w di:=(bG.t aP).trans ((aj.te bd).te cl) λj aJ e=>by have:G.heap.size<=j:=e;have:=bF.size;omega
  refine fA ?_;exact fB fx fx ⟨rfl,co⟩
