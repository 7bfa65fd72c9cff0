/- Parts of the proof. -/
import Derived.Test.YtecaahegomdbbaaGreatDoorRmB9c
import Derived.Test.YtecaahegomdbbaaGreatDoorRmVd
import Derived.Test.YtecaahegomdbbaaGreatDoorRmVj
set_option linter.all false
set_option maxRecDepth 99999
set_option maxHeartbeats 0
namespace Go.Proofs.YtecaahegomdbbaaGreatDoor.gr
open Go.Proofs.Tryz
open Go.RowKit
variable {e:En} {c k:Int} {l:ip hT} {b i j:Nat} {n x y:Nd} {v:i6} {p q:fL} {D:fL->Bool} {S U:fZ} {m:hA}
section
open Wr
attribute [local irreducible] xs T
def ChC (w:i5) (g:Nat) (m:FuncId) (cap:Array i6) (f:Nd->Nd×Int):Prop:=
 ∀w' (x:gG),Fr (· =g) w w'->im w' x->GZ x.n->fF x.n.data<=1000000->fQ prog m (#[.agg (gB x).toArray]++cap) w' λr d=>∃x',r= .tuple #[.agg (gB x').toArray,.I (f x.n).2]/\x'.n=(f x.n).1/\(∀u∈gB x',u.oneCell'=true)/\((f x.n).2=0->rj d w'.heap.size x')/\Ext w' d
def xN (w:i5) (g u v:Nat) (pos:Int) (s:fL) (h1:gc w u 0 (.I pos)) (I:gc w v 0 (.U s)) (n1:u≠g) (V:v≠g) (T:s.length<=1000000) (S:pos<=4000000000000000000):
  ChC w g 49 #[.P u,.P v] (λn=>gy n pos s):=by
 intro w0 x E U O C;refine kg func49 fx fE ?_;have k1:=E.cell h1 n1;have k2:=E.cell I V;refine fA ?_;refine hP fx (λH K D Y=>?_);refine fA ?_;refine gx (z:= .agg tH) fE (λm L y Z=>?_);have d:Ext w0 m:=D.t y;have J:fW m w0.heap.size 37 (gB x).toArray:=fW.ext K y;have q1:=d.cell k1;have q2:=d.cell k2;have ab:=D.size;refine fA ?_;refine gR (t:=37) J fx fx ?_;refine fA ?_;refine fH fx fx (HL m x pos s (U.ext d) O C T S) (λr aa h3=>?_);obtain⟨x',rfl,R,G,hO,B⟩:=h3;refine fA ?_;refine gY (L.ext B) fx fx fE fx (fJ (l:=gB x') (ld.2 (iC G))) (λW M F=>?_);have z3:=B.size;have z2:=y.size;have N:Ext w0 W:=(d.t B).trans F λj X e=>by have:j=H.heap.size:=e;omega
 have Q:∀{b:Nat},m.heap.size<=b->b≠H.heap.size:=λh e=>fy
 refine fA ?_;exact hL fx fx fx M fE ⟨x',rfl,R,iC G,(λh=>((hO h).fr F λb C=>Q ((hO h).f b C)).mono fy),N⟩
def KG (w:i5) (g m:Nat) (size:Int) (h1:gc w m 0 (.I size)) (n1:m≠g):
  ChC w g 175 #[.P m] (λn=>kx n size):=by
 intro w0 x L Q M B;refine gP func175 fx fE ?_;have k1:=L.cell h1 n1;refine fA ?_;refine hP fx (λF H C T=>?_);refine fA ?_;refine gx (z:= .agg tH) fE (λd I v U=>?_);have u:Ext w0 d:=C.t v;have G:fW d w0.heap.size 37 (gB x).toArray:=fW.ext H v;have q1:=u.cell k1;have W:=C.size;refine fA ?_;refine gR (t:=37) G fx fx ?_;refine fA ?_;refine fH fx fx (N3 d x size (Q.ext u) M B) (λr V h3=>?_);obtain⟨x',rfl,O,E,hO,y⟩:=h3;refine fA ?_;refine gY (I.ext y) fx fx fE fx (fJ (l:=gB x') (ld.2 (iC E))) (λR J D=>?_);have z3:=y.size;have z2:=v.size;have K:Ext w0 R:=(u.t y).trans D λj S e=>by have:j=F.heap.size:=e;omega
 have N:∀{b:Nat},d.heap.size<=b->b≠F.heap.size:=λh e=>fy
 refine fA ?_;exact hL fx fx fx J fE ⟨x',rfl,O,iC E,(λh=>((hO h).fr D λb B=>N ((hO h).f b B)).mono fy),K⟩
end
section
open Wr
def ju (m:hA) (t:fZ) (p:fL) (f:Nd->Nd×Int):Int:=
 if(hD t p).2≠0 then(hD t p).2 else if(nodeAt t (hD t p).1).kind=1 then 8 else if(nodeAt t (hD t p).1).kind≠2 then 9
 else if(f (nodeAt t (hD t p).1)).2≠0 then(f (nodeAt t (hD t p).1)).2
 else if m.mL<(gf t.ns:Int)-fF (nodeAt t (hD t p).1).data+fF (f (nodeAt t (hD t p).1)).1.data then 10 else 0
def lK (m:hA) (t:fZ) (p:fL) (f:Nd->Nd×Int):fZ:=if ju m t p f=0 then⟨t.es,t.ns.set (hD t p).1.toNat {(f (nodeAt t (hD t p).1)).1 with time:=m.calls}⟩else t
attribute [local irreducible] xs T
def rm (w:i5) (B g:Nat) (m:hA) (vf ve vn:i6) (fO:ip gG) (t:fZ) (p:fL) (ag:FuncId) (cap:Array i6) (f:Nd->Nd×Int) (h:nJ w B g m vf ve vn fO t) (a4:bit qR ag=true) (a3:ChC w g ag cap f)
  (aW:∀n∈t.ns,(f n).2=0->GZ (f n).1/\fF (f n).1.data<=1000000):
  fQ prog 48 #[.P g,.U p,.func (.func ag) #[] cap] w λr w'=>r= .I (ju m t p f)/\∃bb,iY w B g vf ve vn fO w' m (lK m t p f) ve vn bb:=by
 refine kg func48 fx fE ?_;have hlen:=h.i.tr.len;have bh:=h.i.k.lt;obtain⟨A,c,rfl,be,bf,_⟩:=h.i.tr.e.op gi;refine fA ?_;refine fI fx fx (nq w g _ vf _ _ fO t p h.i) ?_;rintro r H ⟨rfl,aa⟩;have O:=iY.ext h aa;unfold lK ju
 by_cases S:(hD t p).2=0
 .rw [if_neg (λh=>h S),S];obtain⟨i,hi,bk⟩:=find_range h.i.r S;rw[hi,je];obtain⟨E,cN,rfl,bi,bj,bg,_,a1⟩:=gK.go h.o.n fy;obtain⟨y,af⟩:∃y,fO[i]? =some y:=⟨_,j9 fy⟩;have ba:nodeAt t (i:Int)=y.n:=by unfold nodeAt;rw[je];exact h.i.tr.getD af
  rw[ba];have a5:E≠g:=h.i.a E (.inr (.inl rfl));have k5:gc H g 5 (.S E 0 fO.length cN):=O.o.i.k.cell 5;have an:=O.o.o.i y (jT af);have Z:=jT (h.i.tr.get af);refine Q6 ?_;refine hV (cs:=gB y) fx fE (λj u hu=>aa.cell (a1 _ u (flat_get gw af hu))) ?_;refine fA ?_;refine gx (z:= .agg tH) fE (λbq aK aQ bm=>?_);refine fA ?_;refine gY aK fx fx fE fx (fJ (l:=gB y) (ld.2 (iC an.in))) (λM ah aU=>?_);have K:Ext H M:=aQ.trans aU λj aB e=>by have:j=H.heap.size:=e;omega
  have ab:=O.t (iY.ext O.o K);have z3:=aa.size;have q0:gc M H.heap.size 0 (.I y.n.kind):=ah.cell 0
  by_cases k1:y.n.kind=1
  .rw[if_pos k1];refine fA ?_;exact fB fx fx ⟨rfl,_,ab⟩
  rw[if_neg k1]
  by_cases k2:y.n.kind=2
  .rw [if_neg (λh=>h k2)];refine fA ?_;refine gR (t:=37) ah fx fx ?_;refine fA ?_;refine xa (vs:=[.agg (gB y).toArray]) fx fx a4 (a3 M y (show Ext w M from aa.t K).fr (an.in.ext K) (h.i.l y.n Z) (h.i.s y.n Z)) ?_;rintro r I ⟨v,rfl,ao,a7,aY,U⟩;have ad:=ab.t (iY.ext ab.o U);refine fA ?_;refine gx (z:= .agg tH) fE (λbr aN aT bn=>?_);refine gY aN fx fx fE fx (fJ (l:=gB v) (ld.2 a7)) (λF aO aV=>?_);have V:Ext I F:=aT.trans aV λj aB e=>by have:j=I.heap.size:=e;omega
   have ae:=ad.t (iY.ext ad.o V)
   by_cases T:(f y.n).2=0
   .rw [if_neg (λh=>h T)];have aL:=(ah.ext U).ext V;have hq:fW F.drew H.heap.size 37 (gB y).toArray/\fW F.drew I.heap.size 37 (gB v).toArray/\gc F.drew g 0 (.I m.mL):=⟨aL.drew,aO.drew,ae.o.i.k.cell 0⟩;refine fA ?_;refine lk [45,48,54] (λw'=>fW w' H.heap.size 37 (gB y).toArray/\fW w' I.heap.size 37 (gB v).toArray/\gc w' g 0 (.I m.mL)) fE (by decide+kernel) hq ?_;refine fA ?_;have am:=ae.t (iY.ext ae.o (Fr.drew hJ F));refine fI fx fx (OW F.drew g _ vf _ _ fO t am.o.i) ?_ (λr w' h=>⟨hq.1.ext h.2,hq.2.1.ext h.2,h.2.cell hq.2.2⟩);rintro r aG ⟨rfl,L⟩;have R:=And.intro (hq.1.ext L) (And.intro (hq.2.1.ext L) (L.cell hq.2.2));have aA:=am.t (iY.ext am.o L);have aR:Ext M aG:=((U.t V).t (Fr.drew hJ F)).t L;have a9:=(an.in.ext K).ext aR;have ax:=(((aY T).ext V).ext (Fr.drew hJ F)).ext L;obtain⟨ak,av⟩:=aW y.n Z T;have bo:=DE h.i.s;have bl:=h.i.ln;have bd:=h.i.s y.n Z;refine fA ?_;refine sf (cs:=gB y) fx fE (λw' h j u hu=>by unfold gc;rw[iM,h.1.cell,po];exact hu) ?_;refine fI fx fx (qv aG y a9 (h.i.s y.n Z)) ?_ (λr w' h=>⟨R.1.ext h.2,R.2.1.ext h.2,h.2.cell R.2.2⟩);rintro r bc ⟨rfl,J⟩;have Q:=And.intro (R.1.ext J) (And.intro (R.2.1.ext J) (J.cell R.2.2));have ay:=aA.t (iY.ext aA.o J);refine fA ?_;refine sf (cs:=gB v) fx fE (λw' h j u hu=>by unfold gc;rw[iM,h.2.1.cell,po];exact hu) ?_;refine fI fx fx (qv bc v (ax.in.ext J) (by rw[ao];exact av)) ?_ (λr w' h=>⟨Q.1.ext h.2,Q.2.1.ext h.2,h.2.cell Q.2.2⟩);rintro r aE ⟨rfl,N⟩;have a8:=And.intro (Q.1.ext N) (And.intro (Q.2.1.ext N) (N.cell Q.2.2));have az:=ay.t (iY.ext ay.o N);have aw:=(ax.ext J).ext N;have ap:=a8.2.1;have a0:fF v.n.data=fF (f y.n).1.data:=by rw[ao]
    rw[a0];have aS:Ext I aE:=(((V.t (Fr.drew hJ F)).t L).t J).t N;have bs:=U.size
    by_cases aC:m.mL<(gf t.ns:Int)-fF y.n.data+fF (f y.n).1.data
    .rw[if_pos aC,if_neg fU]
     repeat' (first|refine pG fx fx (λ_ h=>h.2.2) ?_|refine fT ?_|fail)
     exact fB fx fx ⟨rfl,_,az⟩
    .rw[if_neg aC,if_pos rfl]
     repeat' (first|refine pG fx fx (λ_ h=>h.2.2) ?_|refine fT ?_|fail)
     refine fI fx fx (ua aE g _ vf _ _ az.o.i.k) ?_;rintro r D ⟨rfl,rfl⟩;refine fA ?_;refine ir ap fx fx fE fx fx (λD aH ar=>?_);have aI:fW D I.heap.size 37 (gB ⟨gA v.n m.calls,v.va,v.vc,v.vd⟩).toArray:=aH;have a2:=Fr.drew hJ D;have ai:Ext D D.drew:=a2;have aq:Ext I D.drew:=(aS.trans ar λj aB e=>by have:j=I.heap.size:=e;omega).t ai;have G:=ad.t (iY.ext ad.o aq);have al:=(aw.fr ar λb C=>aw.ne ap fU fU fU C).ext ai;have W:rj D.drew M.heap.size ⟨gA v.n m.calls,v.va,v.vc,v.vd⟩:=⟨al.a,al.c,al.d⟩;have aJ:=aI.ext ai;have bp:gc D.drew g 5 (.S E 0 fO.length cN):=G.o.i.k.cell 5;have aM:B<=M.heap.size:=by have h1:=h.b;have:=K.size;omega
     refine fA ?_;refine gR (t:=37) aJ fx fx ?_;refine Q6 ?_;refine F8 gw i G.o.o.n fx fx fx fE (iC W.in) fy (λaF aX aj=>?_);have au:Fr (Ep g (.slice A t.es.length c) (.S E 0 fO.length cN)) D.drew aF:=aj.mono λb _ C=> .inr (.inr (by have:b=E:=C;rw[this];rfl))
     have a6:gA v.n m.calls=gA (f y.n).1 m.calls:=by rw[ao]
     have aD:∀n∈t.ns.set i (gA (f y.n).1 m.calls),n∈t.ns\/n=gA (f y.n).1 m.calls:=λn X=>x3 X
     have aP:Ext H D.drew:=(K.t U).t aq
     have aZ:iY H B g vf (.slice A t.es.length c) (.S E 0 fO.length cN) fO aF m ⟨t.es,t.ns.set i (gA (f y.n).1 m.calls)⟩ (.slice A t.es.length c) (.S E 0 fO.length cN) (fO.set i ⟨gA v.n m.calls,v.va,v.vc,v.vd⟩):=
      ⟨G.o.step au rfl (G.o.i.k.fr aj (λe=>a5 e.symm)) (G.o.o.e.fr aj λb C e=>G.o.o.e.apart G.o.o.n fU C (by have:b=E:=e;rw[this];rfl)) aX
       (λx Y=>(x3 Y).elim (G.o.o.i x) λe=>by rw[e];exact W.mono aM) (by rw[vz,h.o.m,a6]) (by rw[nS];exact h.i.r) h.i.h
       (λn X=>(aD n X).elim (h.i.l n) λe=>by rw[e];exact⟨ak.a,ak.c,ak.d⟩) (λn X=>(aD n X).elim (h.i.s n) λe=>by rw[e];exact av) h.i.le (by rw[nS];exact h.i.ln),aP.fr.t au,λ_ C=> .inl C,λx Y b C=>?_⟩
     .refine fA ?_;exact fB fx fx ⟨rfl,_,O.t aZ⟩
     .rcases x3 Y with Y|rfl
      .exact .inl ⟨x,Y,C⟩
      .refine .inr ?_;have z5:=K.size;rcases C with C|C|C
       .have:=(W.a.gO C).1;omega
       .have:=(W.c.gO C).1;omega
       .have:=(W.d.gO C).1;omega
   .rw[if_pos T,if_neg T];refine fA ?_;exact fB fx fx ⟨rfl,_,ae⟩
  .rw[if_pos k2];refine fA ?_;exact fB fx fx ⟨rfl,_,ab⟩
 .rw[if_pos S,if_neg S];refine fA ?_;exact fB fx fx ⟨rfl,_,O⟩
end
structure kY (t:fZ):Prop where
 f:ym t
 u:∀i:Nat,i<t.ns.length->∃e∈t.es,e.node=(i:Int)
theorem sv {ns:ip Nd} {n':Nd} (hk:n'.kind=(ns.getD i default).kind) (k:Int):fV (ns.set i n') k=fV ns k:=by
 grind [fV, Int.toNat, List.getElem?_eq_none]
def kY.set {t:fZ} (h:kY t) {i:Nat} {n':Nd} (hk:n'.kind=(t.ns.getD i default).kind) (y:fG n'=true):kY ⟨t.es,t.ns.set i n'⟩:=by
 refine⟨⟨⟨λe he=>by dsimp only;rw[nS];exact h.f.g.inr e he,h.f.g.len,h.f.g.path,h.f.g.nd,?_,λe he n=>?_,λe he=>?_,λe he m=>h.f.g.dir e he (by grind [sv])⟩,h.f.a⟩,λj x=>h.u j fM⟩
 .obtain⟨e,he,v,m⟩:=h.f.g.root
  grind [sv]
 .obtain⟨d,w,v,m⟩:=h.f.g.par e he n
  grind [sv]
 .have h1:=h.f.g.inr e he;show fG ((t.ns.set i n').getD e.node.toNat default)=true
  rw[kW,LK];split
  .grind
  .rw[<-kW];exact h.f.g.node e he
def kY.node {t:fZ} (h:kY t) {i:Nat} (hi:i<t.ns.length):fG (t.ns.getD i default)=true:=by
 obtain⟨e,he,h1⟩:=h.u i hi;have:=h.f.g.node e he
 grind
theorem IF (h:hd n=true) (hc:0<=c):hd (gA n c)=true:=by
 grind [hd, gA]
def nz {n':Nd} (h:fG n=true) (hm:hd n'=true) (e:n'.kind=n.kind/\n'.size=n.size/\n'.data=n.data/\n'.target=n.target/\n'.major=n.major/\n'.minor=n.minor):fG n'=true:=by
 grind [fG, iv, jz, jL, jV]
def kK (h:fG n=true) (hc:0<=c):fG (gA n c)=true:=
 nz h (by grind [IF, fG]) ⟨rfl,rfl,rfl,rfl,rfl,rfl⟩
def kY.Pn {t:fZ} (h:kY t) (p:fL) (hc:0<=c):kY (j8 t p c):=by
 unfold j8 rM;cases iI p with
 |none=>exact h
 | some q=>
  dsimp only;cases m:fK t.es q with
  |none=>exact h
  |some k=>
   obtain⟨e,he,_,d⟩:=gT m;have h3:=h.f.g.node e he;rw[d]at h3;exact h.set fx (kK h3 hc)
theorem C3:∀(l:ip fL) (x:fL),jc l (l++[x])=true
 |[],_=>rfl
 |y::r,x=>by rw[rf,jc,if_pos rfl];exact C3 r x
def ND (e:En) (r:ip En) (p:fL) (k:Int):oN (e::r) p k=if ix e.path p=true then e::oN r p k else⟨p,k⟩::e::r:=by
 grind [oN, Cq]
theorem pC (es:ip En) (p:fL) (k:Int):(oN es p k).Perm (⟨p,k⟩::es):=by
 grind [oN, List.perm_middle, List.take_append_drop]
theorem Gz {p:fL} {k:Int} (g:gX p=true):∀{es:ip En},es.Pairwise BP->(∀e∈es,gX e.path=true)->(∀e∈es,e.path≠p)->(oN es p k).Pairwise BP
 |[],_,_,_=>List.pairwise_singleton _ _
 | e::r,h,hm,m=>by
  rw[jA]at h;rw[ND];split
  .rename_i f;rw[jA];refine⟨λy d=>?_,Gz g h.2 fM fM⟩;rcases iu.1 ((pC r p k).mem_iff.1 d)with rfl|d
   .exact f
   .exact h.1 y d
  .rename_i f;have fY:BP ⟨p,k⟩ e:=by grind [VQ, yD]
   rw[jA,jA];exact⟨λy d=>(iu.1 d).elim (λe'=>e'▸fY) λd=>lS _ _ _ fY (h.1 y d),h⟩
def ym.app {t:fZ} (h:ym t) (n:Nd):ym ⟨t.es,t.ns++[n]⟩:=by
 have m:∀e∈t.es,(t.ns++[n]).getD e.node.toNat default=t.ns.getD e.node.toNat default:=λe he=>by
  have:=h.g.inr e he
  grind
 have hk:∀e∈t.es,fV (t.ns++[n]) e.node=fV t.ns e.node:=by grind [fV]
 refine⟨⟨λe he=>?_,h.g.len,h.g.path,h.g.nd,?_,λe he u=>?_,λe he=>?_,λe he f=>h.g.dir e he fM⟩,h.a⟩
 .have:=h.g.inr e he
  grind
 .obtain⟨e,he,v,f⟩:=h.g.root
  grind
 .obtain⟨d,w,v,f⟩:=h.g.par e he u
  grind
 .dsimp only;rw[m e he];exact h.g.node e he
def ym.ins {t:fZ} (h:ym t) (E:t.es.length<100) (n:gX p=true) (C:∀e∈t.es,e.path≠p) (F:p≠[]->∃d∈t.es,d.path=n8 p/\fV t.ns d.node=1) (hk:0<=k/\k<t.ns.length) (y:fG (t.ns.getD k.toNat default)=true) (v:fV t.ns k≠1\/∀e∈t.es,e.node≠k):ym ⟨oN t.es p k,t.ns⟩:=by
 have D:=pC t.es p k;have f:∀e,e∈oN t.es p k↔e=⟨p,k⟩\/e∈t.es:=fM;refine⟨⟨λe he=>?_,?_,λe he=>?_,?_,?_,λe he B=>?_,λe he=>?_,λe he x e' m w=>?_⟩,Gz n h.a h.g.path C⟩
 .rcases(f e).1 he with rfl|he
  .exact hk
  .exact h.g.inr e he
 .grind [List.Perm.length_eq, List.length_cons]
 .rcases(f e).1 he with rfl|he
  .exact n
  .exact h.g.path e he
 .rw[(D.map (·.path)).nodup_iff,jj,QC];exact⟨fM,h.g.nd⟩
 .obtain⟨e,he,h1,u⟩:=h.g.root
  grind
 .rcases(f e).1 he with rfl|he
  .grind
  .obtain⟨d,v,h1,u⟩:=h.g.par e he B
   grind
 .rcases(f e).1 he with rfl|he
  .exact y
  .exact h.g.node e he
 .rcases(f e).1 he with rfl|he
  .grind
  .rcases(f e').1 m with rfl|m
   .grind
   .exact h.g.dir e he x e' m w
theorem rn (t:fZ):∀(f:Nat) (o:Option fL),jW t f o 7≠0
 |0,_=>by rw[jW];decide
 |_+1,none=>by rw[jW];decide
 | f+1,some q=>by
  rw[jW];split
  .split
   .exact rn t f _
   .decide
  .exact rn t f _
def Hq {t:fZ} (h:jf t p=0):gX p=true/\(p≠[]->iI p=some (n8 p)/\∃d∈t.es,d.path=n8 p/\fV t.ns d.node=1):=by
 unfold jf at h;split at h
 .rename_i hm;refine⟨hm,λu=>?_⟩
  have g:iI p=some (n8 p):=by
   unfold iI;rw[if_neg (by grind [qB])]
  refine⟨g,?_⟩;rw[g,jW]at h;cases f:fK t.es (n8 p)with
  |none=>grind [absurd, rn]
  |some k=>
   rw[f]at h;dsimp only at h;split at h
   .rename_i hk;obtain⟨d,n,h1,m⟩:=gT f;exact⟨d,n,h1,by rw[m];exact hk⟩
   .cases h
 .cases h
def Mg {t:fZ} (h:tB t p=0):(∀e∈t.es,e.path≠p)/\t.es.length<100:=by
 unfold tB at h;split at h
 .cases h
 .rename_i d;split at h
  .cases h
  .refine⟨mU lX,fy⟩
theorem GK (h:fG n=true) (hc:0<=c):fG (gz n c)=true:=by
 unfold fG at h|-;rw[iU]at h|-;obtain⟨h1,d⟩:=h;constructor
 .unfold hd at h1|-;unfold gz;simp only[iU,decide_eq_true_eq]at h1;obtain⟨⟨⟨⟨⟨⟨⟨⟨h1,d⟩,h3⟩,t⟩,_⟩,u⟩,v⟩,w⟩,x⟩:=h1;rw[decide_eq_true h1,decide_eq_true d,decide_eq_true hc];rfl
 .have f:iv (gz n c)=true:=rfl;have g:jz (gz n c)=jz n:=rfl;have m:jL (gz n c)=jL n:=rfl;have e4:jV (gz n c)=true:=rfl;rw[f,g,m,e4];show(if n.kind=1\/n.kind=6 then _ else if n.kind=2 then _ else if n.kind=3 then true&&jL n&&decide (1<=n.target.length)&&decide (n.target.length<=200)&&n.target.all _ else if n.kind=4\/n.kind=5 then true&&jz n&&decide (0<=n.major)&&decide (n.major<=65535)&&decide (0<=n.minor)&&decide (n.minor<=65535)else false)=true
  grind
theorem uM {t:fZ} (h:kY t) (hc:0<=(gj m).2.2.calls):kY (mq m t p n):=by
 unfold mq;split
 .rename_i he;unfold qQ at he;split at he
  .grind
  split at he
  .grind
  split at he
  .cases he
  rename_i _ hw v;obtain⟨y,D⟩:=Hq (by rw[Ab]at hw;exact hw);obtain⟨w,x⟩:=Mg he;have C:fG n=true:=by simpa using v
  have d:=h.f.app (gz n (gj m).2.2.calls)
  have B:∀e∈t.es,fV (t.ns++[gz n (gj m).2.2.calls]) e.node=fV t.ns e.node:=λe he=>by
   have:=h.f.g.inr e he
   grind [fV, List.getElem?_append_left]
  unfold tW;refine kY.Pn ⟨d.ins (k:=(t.ns.length:Int)) x y w (λh0=>?_) ?_ ?_ (.inr λe he=>?_),λi hi=>?_⟩ p hc
  .grind
  .grind
  .grind [Int.toNat_natCast, List.getElem?_append_right, GK]
  .have:=h.f.g.inr e he;omega
  .dsimp only at hi|-;rw[ib]at hi;simp only[iP,kL]at hi
   by_cases fY:i<t.ns.length
   .obtain⟨e,he,h1⟩:=h.u i fY
    grind [pC, List.mem_cons_of_mem]
   grind [List.length, pC, List.mem_cons_self]
 .exact h
def yo {t:fZ} (h:(hD t p).2=0):jf t p=0/\fK t.es p=some (hD t p).1:=by
 grind [hD, absurd, fK]
theorem GB {t:fZ} (h:kY t) (hc:0<=(gj m).2.2.calls):kY (pW m t p q):=by
 unfold pW;split
 .rename_i he;unfold tJ at he;split at he
  .grind
  split at he
  .grind
  split at he
  .cases he
  split at he
  .grind
  rename_i _ x hk hw;obtain⟨E,F⟩:=Hq (by rw[Ab]at hw;exact hw);obtain⟨C,D⟩:=Mg he;obtain⟨_,B⟩:=yo (by rw[Ab]at x;exact x);obtain⟨d,n,G,y⟩:=gT B;have w:=h.f.g.inr d n;have v:=h.f.g.node d n;rw[y]at w v;unfold tW;refine kY.Pn ⟨h.f.ins D E C (λh0=>(F h0).2) w v (.inl hk),λi hi=>?_⟩ p hc;obtain⟨e,he,h1⟩:=h.u i hi
  grind [pC, List.mem_cons_of_mem]
 .exact h
theorem sT {t:fZ} {e:Nd->Int} {d:Nd->Nd} (h:kY t) (w:∀n,fG n=true->e n=0->hd (d n)=true->fG (d n)=true/\(d n).kind=n.kind):kY (nL m t p e d):=by
 unfold nL;split
 .rename_i he;unfold nr at he;split at he
  .grind
  split at he
  .grind
  split at he
  .grind
  split at he
  .cases he
  rename_i _ u h3 hm;obtain⟨_,y⟩:=yo (by rw[Ab]at u;exact u);obtain⟨x,B,D,C⟩:=gT y;have v:=h.f.g.node x B;rw[C]at v;obtain⟨g1,g2⟩:=w (nodeAt t (hD t p).1) v fy fM;exact h.set g2 g1
 .exact h
def yT {t:fZ} {f:Nd->Nd×Int} (h:kY t) (hc:0<=m.calls) (v:∀n,fG n=true->(f n).2=0->fG (f n).1=true/\(f n).1.kind=n.kind):kY (lK m t p f):=by
 unfold lK;split
 .rename_i he;unfold ju at he;split at he
  .grind
  split at he
  .cases he
  split at he
  .cases he
  split at he
  .grind
  rename_i d _ _ h3;obtain⟨_,w⟩:=yo (by rw[Ab]at d;exact d);obtain⟨x,y,C,B⟩:=gT w;have u:=h.f.g.node x y;rw[B]at u;obtain⟨g1,g2⟩:=v _ u (by rw[Ab]at h3;exact h3);exact h.set (n':=gA _ _) g2 (kK g1 hc)
 .exact h
def DT {ns:ip Nd} (d:0<=k) (he:0<=e.node) (f:e.node≠k):(ns.eraseIdx k.toNat).getD (nI k e).node.toNat default=ns.getD e.node.toNat default:=by
 grind [nI, Int.toNat, default]
def ym.drop {t:fZ} (h:ym t) (hk:0<=k/\k<t.ns.length) (n:∀e∈t.es,e.node≠k):ym ⟨t.es.map (nI k),t.ns.eraseIdx k.toNat⟩:=by
 have D:∀e∈t.es,(t.ns.eraseIdx k.toNat).getD (nI k e).node.toNat default=t.ns.getD e.node.toNat default:=λe he=>DT hk.1 (h.g.inr e he).1 (n e he)
 have H:∀e∈t.es,fV (t.ns.eraseIdx k.toNat) (nI k e).node=fV t.ns e.node:=by grind [fV]
 have w:(t.es.map (nI k)).map (·.path)=t.es.map (·.path):=by rw[rN];exact x5 λe _=>lT k e
 refine⟨⟨λe he=>?_,?_,λe he=>?_,?_,?_,λe he v=>?_,λe he=>?_,λe he G e' C m=>?_⟩,uY w.symm h.a⟩
 .obtain⟨x,f,rfl⟩:=lp.1 he;have h1:=h.g.inr x f;have u:=n x f;dsimp only;rw[K0,if_pos fy];unfold nI;split<;>grind
 .dsimp only;rw[jv];exact h.g.len
 .obtain⟨x,f,rfl⟩:=lp.1 he;rw[lT];exact h.g.path x f
 .dsimp only;rw[w];exact h.g.nd
 .obtain⟨e,he,h1,u⟩:=h.g.root
  grind [List.mem_map_of_mem, lT]
 .obtain⟨x,f,rfl⟩:=lp.1 he;rw[lT]at v|-;obtain⟨d,F,h1,u⟩:=h.g.par x f v
  grind [List.mem_map_of_mem, lT]
 .obtain⟨x,f,rfl⟩:=lp.1 he;dsimp only;rw[D x f];exact h.g.node x f
 .obtain⟨x,f,rfl⟩:=lp.1 he;obtain⟨y,B,rfl⟩:=lp.1 C;have h1:=n x f;have u:=n y B
  have E:y.node=x.node:=by
   unfold nI at m;split at m<;>split at m<;>(try dsimp only at m)<;>omega
  rw[h.g.dir x f fM y B E]
def ym.less {t:fZ} (h:ym t) (F:p≠[]) (hk:lV t p=[]):ym ⟨t.es.filter (nB (vZ p)),t.ns⟩:=by
 have f:∀e,e∈t.es.filter (nB (vZ p))↔e∈t.es/\e.path≠p:=by grind [nB, vZ]
 refine⟨⟨λe he=>h.g.inr e ((f e).1 he).1,ly fM h.g.len,λe he=>h.g.path e ((f e).1 he).1,h.g.nd.sublist (List.Sublist.map _ Pm),?_,λe he u=>?_,λe he=>h.g.node e ((f e).1 he).1,λe he B e' x y=>h.g.dir e ((f e).1 he).1 B e' ((f e').1 x).1 y⟩,h.a.sublist Pm⟩
 .obtain⟨e,he,h1,n⟩:=h.g.root
  grind
 .obtain⟨m,D⟩:=(f e).1 he;obtain⟨d,v,h1,n⟩:=h.g.par e m u;refine⟨d,(f d).2 ⟨v,λw=>?_⟩,h1,n⟩
  have C:fX e.path≠[]:=λh0=>by
   rcases qB.1 h0 with h3|h3
   .exact u h3
   .rw[h.g.path e m]at h3;cases h3
  have E:mK e.path∈lV t p:=by
   unfold lV;refine lp.2 ⟨e,DW.2 ⟨m,?_⟩,rfl⟩;unfold iI;rw[if_neg C,<-h1,w];exact decide_eq_true fx
  grind
def UJ {t:fZ} (h:kY t) (E:fK t.es p=some k) (M:p≠[]) (hk:lV t p=[]):kY (uF t p k):=by
 obtain⟨d,n,v,C⟩:=gT E;have D:=h.f.g.inr d n;rw[C]at D;have F:=h.f.less M hk;have B:∀e,e∈t.es.filter (nB (vZ p))↔e∈t.es/\e.path≠p:=by grind [nB, vZ]
 have H:(qo t p).length=(t.es.filter λe=>decide (e.node=k)).length:=by unfold qo;rw[E];dsimp only;rw[jv]
 have I:d∈t.es.filter λe=>decide (e.node=k):=fM
 unfold uF;rw[H];split
 .rename_i h1;obtain⟨z,X⟩:=CZ.1 h1
  have L:∀e∈t.es.filter (nB (vZ p)),e.node≠k:=λe he T=>by
   obtain⟨Q,R⟩:=(B e).1 he;have m1:e∈t.es.filter λe=>decide (e.node=k):=fM
   grind
  refine⟨F.drop D L,λi hi=>?_⟩;dsimp only at hi|-;rw[K0,if_pos fy]at hi
  have key:∀j:Nat,j<t.ns.length->(j:Int)≠k->∃e∈t.es.filter (nB (vZ p)),e.node=(j:Int):=λj J K=>by
   obtain⟨e,he,m⟩:=h.u j J;refine⟨e,(B e).2 ⟨he,λw=>K ?_⟩,m⟩;rw[<-m,mX h.f.g.nd he n (w.trans v.symm),C]
  by_cases U:(i:Int)<k
  .grind [nI, List.mem_map_of_mem]
  .obtain⟨e,he,m⟩:=key (i+1) fy fy;exact⟨nI k e,xc he,by grind [nI]⟩
 .rename_i h1;refine⟨F,λi hi=>?_⟩;obtain⟨e,he,m⟩:=h.u i hi
  by_cases w:e.path=p
  .by_cases hex:∃x∈t.es,x.node=k/\x≠d
   .obtain⟨x,G,V,N⟩:=hex;have S:e=d:=mX h.f.g.nd he n (w.trans v.symm);exact⟨x,(B x).2 ⟨G,λO=>N (mX h.f.g.nd G n (O.trans v.symm))⟩,by grind⟩
   .refine absurd (congrArg List.length (Ql ((rK h.f.g.nd).filter _) I λy W=>?_)) h1
    grind
  grind
def Ur {t:fZ} (h:pJ m t p=0):(gj m).2.1=0/\(hD t p).2=0/\p≠[]/\lV t p=[]:=by
 grind [pJ, absurd, List.eq_nil_of_length_eq_zero]
theorem AI {t:fZ} (h:kY t) (hc:0<=(gj m).2.2.calls):kY (nM m t p):=by
 unfold nM;split
 .rename_i he;obtain⟨_,d,h3,f⟩:=Ur he;exact(UJ h (yo d).2 h3 f).Pn p hc
 .exact h
def OC (t:fZ) (p:fL) (k c:Int):(j8 (uF t p k) p c).es.map (·.path)=(t.es.map (·.path)).filter λq=>decide (q≠p):=by
 show(uF t p k).es.map (·.path)=_
 grind [nB, vZ, decide, List.filter_congr, uF, List.map_map, List.map_congr_left, lT]
theorem RQ {t:fZ} (h:gM t=true) (hi:i<t.ns.length):∃e∈t.es,e.node=(i:Int):=by
 grind [gM, jo, sN, ka, List.countP_pos_iff]
def hv {t:fZ} (h:gM t=true):kY t:=⟨Vq h,by grind [RQ]⟩
theorem Rb {p:hT} {lo hi:Int} (h0:p.data≠[]) (h1:lo<=p.pos) (d:gU p<=hi):nf lo hi p=some p:=by
 have m:0<p.data.length:=fM;obtain⟨pos,data⟩:=p;unfold gU at d;dsimp only at h1 d m;have f:max lo pos=pos:=fy;have g:min hi (pos+(data.length:Int))=pos+(data.length:Int):=fy;unfold nf gU;dsimp only;rw[f,g,if_pos fy]
 grind [List.length, List.take_length]
theorem vC:∀{l:ip hT} {lo hi:Int},(∀p∈l,p.data≠[]/\lo<=p.pos/\gU p<=hi)->gZ l lo hi=l
 |[],_,_,_=>rfl
 |p::r,lo,hi,h=>by
  obtain⟨h0,h1,d⟩:=h p iB;have f:=vC (l:=r) (lo:=lo) (hi:=hi) fM
  grind [gZ, Rb]
theorem CE:∀{l:ip hT} {lo hi:Int},(∀p∈l,gU p<=lo)->gZ l lo hi=[]
 |[],_,_,_=>rfl
 |p::r,lo,hi,h=>by
  have h0:=h p iB;have d:=CE (l:=r) (lo:=lo) (hi:=hi) fM
  grind [gZ, nf]
theorem Gd:∀(r:ip hT) (c:hT),jB 1 (c::r)->l5 c r=c::r
 |[],_,_=>rfl
 |p::r,c,h=>by
  unfold jB at h;rw[jA]at h;have:=h.1 p iB;rw[l5,if_neg fy,Gd r p h.2]
theorem NA (h:jB 1 l):jG l=l:=by
 cases l with
 |nil=>rfl
 |cons c r=>exact Gd r c h
def XG {pos:Int} {s:fL} (hs:jB 1 l) (h:∀p∈l,p.data≠[]/\0<=p.pos/\gU p+1<=pos):qZ l pos s=l++[⟨pos,s⟩]:=by
 unfold qZ;rw[vC fM,CE fM,mR]
 grind [NA, jB, List.mem_singleton]
section
def zo (h:fG n=true):GZ n/\fF n.data<=1000000:=⟨Di h,by have:=(js h).1;omega⟩
def zW {pos:Int} {s:fL} (h:(gy n pos s).2=0):fG n=true:=by
 unfold gy at h;split at h
 .cases h
 .rename_i h1;cases d:fG n with
  |true=>rfl
  |false=>exact absurd (.inl d) h1
def R2 {size:Int} (h:(kx n size).2=0):fG n=true:=by
 unfold kx at h;split at h
 .cases h
 .rename_i h1;cases d:fG n with
  |true=>rfl
  |false=>exact absurd (.inl d) h1
def tV (m:hA) (s:fL):fL:=if(gj m).1=2 then s.take (s.length/2)else s
def qh (m:hA) (t:fZ) (p:fL) (pos:Int) (s:fL):Int:=
 if(gj m).1≠2/\(gj m).2.1≠0 then(gj m).2.1 else if ju (gj m).2.2 t p (λn=>gy n pos (tV m s))≠0 then ju (gj m).2.2 t p (λn=>gy n pos (tV m s))else(gj m).2.1
def oE (m:hA) (t:fZ) (p:fL) (pos:Int) (s:fL):fZ:=if(gj m).1≠2/\(gj m).2.1≠0 then t else lK (gj m).2.2 t p (λn=>gy n pos (tV m s))
def AQ (m:hA) (t:fZ) (p:fL) (size:Int):Int:=if(gj m).2.1≠0 then(gj m).2.1 else ju (gj m).2.2 t p (λn=>kx n size)
def wo (m:hA) (t:fZ) (p:fL) (size:Int):fZ:=if(gj m).2.1≠0 then t else lK (gj m).2.2 t p (λn=>kx n size)
def iY.off {w y C:i5} {B g k:Nat} {vf ve vn u:i6} {fO d:ip gG} {t:fZ} (h:iY w B g vf ve vn fO y m t u v d) (x:Fr (· =k) y C) (hk:w.heap.size<=k) (E:∀b,b=g\/vf.ownBlock=some b\/JA u v d b->b≠k):iY w B g vf ve vn fO C m t u v d:=
 ⟨h.o.fr x λb D e=>E b D e,h.f.trans x λj F e=>by have:j=k:=e;omega,h.k,h.n⟩
attribute [local irreducible] xs T
def Af (w:i5) (B g:Nat) (m:hA) (vf ve vn:i6) (fO:ip gG) (t:fZ) (p:fL) (pos:Int) (s:fL) (h:nJ w B g m vf ve vn fO t) (hc:0<=m.calls/\m.calls<=4000000000000000000) (V:s.length<=1000000) (L:pos<=4000000000000000000):
  fQ prog 19 #[.P g,.U p,.I pos,.U s] w λr w'=>r= .I (qh m t p pos s)/\∃Y,iY w B g vf ve vn fO w' (gj m).2.2 (oE m t p pos s) ve vn Y:=by
 refine xA func19 fx fE ?_;have ag:=h.i.k.lt;obtain⟨A,c,rfl,ad,ae,_⟩:=h.i.tr.e.op gi;refine fA ?_;refine hP fx (λd Q I ah=>?_);refine fA ?_;refine hP fx (λN R J ai=>?_);have H:Ext w N:=I.t J;have v:=h.ext H;have ab:=I.size;refine fA ?_;refine fI fx fx (lM N g m vf _ A _ c v.i.k v.i.h v.i.f hc v.i.af) ?_;rintro r D ⟨rfl,S,E⟩;have U:=v.i.put E S (iW m);have x:=(iY.ext h H).t (iY.put v E U (iW m));have k6:fW D w.heap.size 2 #[.I pos]:=(fW.ext Q J).fr E (show ¬w.heap.size=g by omega);have k7:fW D d.heap.size 9 #[.U s]:=fW.fr R E (show ¬d.heap.size=g by omega);have fY:∀b,b=g\/vf.ownBlock=some b\/JA (.slice A t.es.length c) vn fO b->b<w.heap.size:=λb G=>(h.gO G).2
 unfold qh oE tV
 by_cases hk:(gj m).1=2
 .have C:¬((gj m).1≠2/\(gj m).2.1≠0):=λh=>h.1 hk
  rw[if_neg C,if_neg C,if_pos hk];have q7:gc D d.heap.size 0 (.U s):=k7.cell 0
  repeat' (first|refine xI (s.length/2) fx fx fx fy fy ?_|refine iE fx fx ?_|refine fT ?_|fail)
  refine ir k7 fx fx fE fx fx (λO T K=>?_);have F:=x.off K ab λb G=>by have:=fY b G;omega
  have X:=fW.fr k6 K (show ¬w.heap.size=d.heap.size by omega);have W:(s.take (s.length/2)).length<=1000000:=by rw[kv];omega
  refine BR ?_
  refine fI fx fx (rm O B g _ vf _ vn fO t p 49 #[.P w.heap.size,.P d.heap.size] (λn=>gy n pos (s.take (s.length/2))) F.o fE
   (xN O g w.heap.size d.heap.size pos (s.take (s.length/2)) (X.cell 0) (fW.cell T 0) fy fy W L)
   (λn _ e=>zo (lR (zW e) _ _))) ?_
  rintro r aa ⟨rfl,Z,y⟩
  by_cases u:ju (gj m).2.2 t p (λn=>gy n pos (s.take (s.length/2)))=0
  .rw[if_neg (λh=>h u)];rw[u];refine fA ?_;exact fB fx fx ⟨rfl,_,F.t y⟩
  .rw[if_pos u];refine fA ?_;exact fB fx fx ⟨rfl,_,F.t y⟩
 .by_cases e:(gj m).2.1=0
  .have C:¬((gj m).1≠2/\(gj m).2.1≠0):=λh=>h.2 e
   rw[if_neg C,if_neg C,if_neg hk];refine BR ?_
   refine fI fx fx (rm D B g _ vf _ vn fO t p 49 #[.P w.heap.size,.P d.heap.size] (λn=>gy n pos s) x.o fE
    (xN D g w.heap.size d.heap.size pos s (k6.cell 0) (k7.cell 0) fy fy V L)
    (λn _ e=>zo (lR (zW e) _ _))) ?_
   rintro r aa ⟨rfl,Z,y⟩
   by_cases u:ju (gj m).2.2 t p (λn=>gy n pos s)=0
   .rw[if_neg (λh=>h u)];rw[u];refine fA ?_;exact fB fx fx ⟨rfl,_,x.t y⟩
   .rw[if_pos u];refine fA ?_;exact fB fx fx ⟨rfl,_,x.t y⟩
  .have M:(gj m).1≠2/\(gj m).2.1≠0:=⟨hk,e⟩;rw[if_pos M,if_pos M];refine fA ?_;exact fB fx fx ⟨rfl,_,x⟩
def Og (w:i5) (B g:Nat) (m:hA) (vf ve vn:i6) (fO:ip gG) (t:fZ) (p:fL) (size:Int) (h:nJ w B g m vf ve vn fO t) (hc:0<=m.calls/\m.calls<=4000000000000000000):
  fQ prog 116 #[.P g,.U p,.I size] w λr w'=>r= .I (AQ m t p size)/\∃F,iY w B g vf ve vn fO w' (gj m).2.2 (wo m t p size) ve vn F:=by
 refine kg func116 fx fE ?_;have J:=h.i.k.lt;obtain⟨A,c,rfl,H,I,_⟩:=h.i.tr.e.op gi;refine fA ?_;refine hP fx (λG y x K=>?_);have h1:=h.ext x;refine fA ?_;refine fI fx fx (lM G g m vf _ A _ c h1.i.k h1.i.h h1.i.f hc h1.i.af) ?_;rintro r v ⟨rfl,C,d⟩;have E:=h1.i.put d C (iW m);have u:=(iY.ext h x).t (iY.put h1 d E (iW m));have k6:fW v w.heap.size 2 #[.I size]:=fW.fr y d (show ¬w.heap.size=g by omega);unfold AQ wo
 by_cases e:(gj m).2.1=0
 .rw[if_neg (λh=>h e),if_neg (λh=>h e),e];refine BR ?_
  refine fI fx fx (rm v B g _ vf _ vn fO t p 175 #[.P w.heap.size] (λn=>kx n size) u.o fE
   (KG v g w.heap.size size (k6.cell 0) fy)
   (λn _ e=>zo (yC (R2 e) _))) ?_
  rintro r M ⟨rfl,L,D⟩;refine fA ?_;exact fB fx fx ⟨rfl,_,u.t D⟩
 .rw[if_pos e,if_pos e];refine fA ?_;exact fB fx fx ⟨rfl,_,u⟩
end
structure oY where
 kind:Int
 path:fL
 other:fL
 n:Int
deriving DecidableEq,Inhabited
def oz (p:fL):ip oY:=[⟨6,p,[],0⟩,⟨7,p,[],0⟩,⟨8,p,[],0⟩,⟨9,p,[],0⟩,⟨10,p,[],0⟩]
def gI (es:ip En) (k:Int):Nat:=es.findIdx λe=>decide (e.node=k)
def rH (l:ip hT):Int:=match l.getLast? with
 |none=>0
 |some p=>gU p
def ha (t:fZ) (i:Nat):En:=t.es.getD i default
def IW (p:fL) (k:Nat):ip oY:=(List.range k).map λ(j:Nat)=>⟨3,p,[],(j:Int)⟩
def oV (p:fL) (n:Nd):ip oY:=if n.kind=2 then IW p n.data.length++(if n.size=rH n.data then[]else[⟨4,p,[],0⟩])else[]
def ou (t:fZ) (i:Nat):ip oY:=
 if(nodeAt t (ha t i).node).kind=1 then[⟨1,(ha t i).path,[],0⟩]
 else if gI t.es (ha t i).node<i then[⟨5,(ha t i).path,(ha t (gI t.es (ha t i).node)).path,0⟩]
 else⟨2,(ha t i).path,[],0⟩::oV (ha t i).path (nodeAt t (ha t i).node)
def Qd (t:fZ) (i:Nat):ip oY:=if(nodeAt t (ha t i).node).kind≠1/\gI t.es (ha t i).node=i then oz (ha t i).path else[]
def RX (t:fZ) (d i:Nat):ip oY:=if(nodeAt t (ha t i).node).kind=1/\(fX (ha t i).path).length=d then oz (ha t i).path else[]
def oy (t:fZ) (D:fL->Bool) (k:Nat):ip oY:=((List.range k).drop 1).flatMap λi=>if D (ha t i).path then[]else ou t i
def wT (t:fZ) (k:Nat):ip oY:=(List.range k).flatMap (Qd t)
def tt (t:fZ) (d k:Nat):ip oY:=(List.range k).flatMap (RX t d)
def nH (t:fZ):Nat->ip oY
 |0=>tt t 0 t.es.length
 |d+1=>tt t (d+1) t.es.length++nH t d
def pD (t:fZ) (D:fL->Bool):ip oY:=oy t D t.es.length++wT t t.es.length++nH t 8
def uy (m:hA) (S:fZ) (n:Nd) (s:oY):Int×hA×fZ:=
 if s.kind=1\/s.kind=2 then(qQ m S s.path n,(gj m).2.2,mq m S s.path n)
 else if s.kind=3 then
  if s.n<0\/(n.data.length:Int)<=s.n then(1,m,S)
  else(qh m S s.path (n.data.getD s.n.toNat default).pos (n.data.getD s.n.toNat default).data,(gj m).2.2,oE m S s.path (n.data.getD s.n.toNat default).pos (n.data.getD s.n.toNat default).data)
 else if s.kind=4 then(AQ m S s.path n.size,(gj m).2.2,wo m S s.path n.size)
 else if s.kind=6 then(nr m S s.path (λ_=>0) (pX n.uid n.gid),(gj m).2.2,nL m S s.path (λ_=>0) (pX n.uid n.gid))
 else if s.kind=7 then(nr m S s.path (λ_=>(mz n.attrs).1) (tv (mz n.attrs).2),(gj m).2.2,nL m S s.path (λ_=>(mz n.attrs).1) (tv (mz n.attrs).2))
 else if s.kind=8 then(nr m S s.path (λ_=>(j6 n.acl).1) (tR (j6 n.acl).2),(gj m).2.2,nL m S s.path (λ_=>(j6 n.acl).1) (tR (j6 n.acl).2))
 else if s.kind=9 then(nr m S s.path (λ_=>0) (rF n.mode),(gj m).2.2,nL m S s.path (λ_=>0) (rF n.mode))
 else if s.kind=10 then(nr m S s.path (λ_=>0) (λx=>gA x n.time),(gj m).2.2,nL m S s.path (λ_=>0) (λx=>gA x n.time))
 else(1,m,S)
def n3 (m:hA) (S t:fZ) (s:oY):Int×hA×fZ:=
 match fK t.es s.path with
 |none=>(1,m,S)
 |some k=>
  if s.kind=5 then(if(fK t.es s.other).isNone then(1,m,S)else(tJ m S s.path s.other,(gj m).2.2,pW m S s.path s.other))
  else if s.kind=11 then(pJ m S s.path,(gj m).2.2,nM m S s.path)
  else uy m S (nodeAt t k) s
def runM (t:fZ):ip oY->hA->fZ->Int×hA×fZ
 |[],m,S=>(0,m,S)
 |s::l,m,S=>if(n3 m S t s).1≠0 then n3 m S t s else runM t l (n3 m S t s).2.1 (n3 m S t s).2.2
theorem Hi (t:fZ):∀(a b:ip oY) (m:hA) (S:fZ),runM t (a++b) m S=if(runM t a m S).1≠0 then runM t a m S else runM t b (runM t a m S).2.1 (runM t a m S).2.2
 |[],b,m,S=>rfl
 |s::a,b,m,S=>by
  rw[rf,runM,runM]
  by_cases h:(n3 m S t s).1≠0
  .grind
  .rw[if_neg h,if_neg h,Hi t a b]
theorem uL:∀(a b:ip En) (q:fL),fK (a++b) q=(fK a q).or (fK b q)
 |[],b,q=>rfl
 |e::a,b,q=>by
  rw[rf,fK,fK]
  by_cases h:e.path=q
  .grind
  .rw[if_neg h,if_neg h,uL a b q]
theorem zr {l:ip En} (h:∀e∈l,e.path≠p):fK l p=none:=by
 cases d:fK l p<;>grind [fK, gT, absurd]
theorem vH {es:ip En} (h:fK es p=none) (q:fL):fK (oN es p k) q=if q=p then some k else fK es q:=by
 grind [mU, oN, uL, fK, zr, List.mem_of_mem_take, List.take_append_drop]
def EqT (x y:Nd):Prop:=gA x 0=gA y 0
def Ct (x y:Nd):Prop:=x.kind=y.kind/\x.size=y.size/\x.data=y.data/\x.target=y.target/\x.major=y.major/\x.minor=y.minor
def EqT.ct (h:EqT x y):Ct x y:=by
 grind [EqT, gA, Nd.mk.injEq, Ct]
theorem Ct.t {z:Nd} (h:Ct x y) (d:Ct y z):Ct x z:=⟨h.1.trans d.1,h.2.1.trans d.2.1,h.2.2.1.trans d.2.2.1,h.2.2.2.1.trans d.2.2.2.1,h.2.2.2.2.1.trans d.2.2.2.2.1,h.2.2.2.2.2.trans d.2.2.2.2.2⟩
def HZ {l:ip Nd} (hi:i<l.length):(l.set i x).getD j default=if j=i then x else l.getD j default:=by
 grind
theorem pV:∀{l:ip Nd} {i:Nat} (x:Nd),i<l.length->gf (l.set i x)+fF (l.getD i default).data=gf l+fF x.data
 |[],i,x,h=>fM
 |n::l,0,x,_=>by
  grind [fF, gf]
 |n::l,i+1,x,h=>by
  have:=pV (l:=l) (i:=i) x fM
  grind [fF, gf, default]
def A2 {t:fZ} (hq:iI p=some q) (hk:fK t.es q=some k):j8 t p c=⟨t.es,t.ns.set k.toNat (gA (t.ns.getD k.toNat default) c)⟩:=by
 grind [j8, rM]
structure kf (m:hA):Prop where
 f:m.nD=[]
 d:m.down=false
 c:0<=m.calls
def sb (m:hA):hA:={m with calls:=m.calls+1}
theorem kf.uw (h:kf m):gj m=(0,0,sb m):=Ns h.f h.d
theorem kf.sb {m:hA} (h:kf m):kf (sb m):=⟨h.f,h.d,by have:=h.c;show 0<=m.calls+1;omega⟩
theorem DZ (h:ym S) (g:gX p=true) (hq:iI p=some q) (hk:fK S.es q=some k) (f:(nodeAt S k).kind=1):jf S p=0:=by
 obtain⟨d,m,h1,_⟩:=gT hk;unfold jf;rw[if_pos g,hq,jW,hk];dsimp only;rw[if_pos (show(S.ns.getD k.toNat default).kind=1 from f),<-h1]
 grind [uv]
def hZ (h:ym S) (n:fK S.es p=some k):hD S p=(k,0)/\0<=k/\k<S.ns.length:=by
 obtain⟨d,f,h1,m⟩:=gT n;have:=(Pc h f).2;rw[h1,m]at this;have h3:=h.g.inr d f
 grind
structure ZX (S S':fZ) (p q:fL) (kq k:Int):Prop where
 g:kY S'
 f:∀r,fK S'.es r=if r=p then some k else fK S.es r
 l:S'.es.length=S.es.length+1
 n:∀z:Int,0<=z->z<S.ns.length->EqT (nodeAt S' z) (nodeAt S z)/\(z≠kq->nodeAt S' z=nodeAt S z)
 t:gf S'.ns=gf S.ns
def Ni {d:Int} (hm:kf m) (u:kY S) (I:gX p=true) (hq:iI p=some q) (hk:fK S.es q=some d) (F:(nodeAt S d).kind=1) (w:fK S.es p=none) (H:S.es.length<100) (C:fG n=true):
  qQ m S p n=0/\ZX S (mq m S p n) p q d S.ns.length/\(mq m S p n).ns.length=S.ns.length+1/\nodeAt (mq m S p n) S.ns.length=gz n (m.calls+1):=by
 have he:qQ m S p n=0:=by
  unfold qQ;rw[hm.uw];dsimp only;rw[if_neg (λh=>h rfl),if_neg (by grind [DZ, kY.f]),if_neg (by rw[C];decide)];unfold tB;rw[w,if_neg fU,if_neg fy]
 obtain⟨_,G,pA⟩:=hZ u.f hk;have D:q≠p:=fM
 have v:mq m S p n=⟨oN S.es p S.ns.length,(S.ns++[gz n (m.calls+1)]).set d.toNat (gA (nodeAt S d) (m.calls+1))⟩:=by
  unfold mq;rw[if_pos he,hm.uw];unfold tW;have h1:fK (oN S.es p S.ns.length) q=some d:=by rw[vH w,if_neg D];exact hk
  have:=A2 (t:=⟨oN S.es p S.ns.length,S.ns++[gz n (m.calls+1)]⟩) (c:=m.calls+1) hq h1;rw[show(sb m).calls=m.calls+1 from rfl,this]
  have g:(S.ns++[gz n (m.calls+1)]).getD d.toNat default=nodeAt S d:=by
   unfold nodeAt;rw[kW,rk fy,<-kW]
  rw[g]
 have B:kY (mq m S p n):=uM u (by rw[hm.uw];exact hm.sb.c);have hlen:∀x:Nd,(S.ns++[x]).length=S.ns.length+1:=fM
 have E:∀z:Int,0<=z->nodeAt (mq m S p n) z=if z=d then gA (nodeAt S d) (m.calls+1)else(S.ns++[gz n (m.calls+1)]).getD z.toNat default:=λz y=>by
  rw[v];show((S.ns++[gz n (m.calls+1)]).set d.toNat _).getD z.toNat default=_
  grind
 refine⟨he,⟨B,by grind [vH],by grind [vQ],λz h0 h1=>?_,?_⟩,by grind,?_⟩
 .have y:(S.ns++[gz n (m.calls+1)]).getD z.toNat default=nodeAt S z:=by
   unfold nodeAt;rw[kW,rk fy,<-kW]
  rw[E z h0,y]
  by_cases e:z=d
  .rw[if_pos e,e];exact⟨rfl,λh=>absurd fx h⟩
  .rw[if_neg e];exact⟨rfl,λ_=>rfl⟩
 .rw[v];have h1:=pV (l:=S.ns++[gz n (m.calls+1)]) (i:=d.toNat) (gA (nodeAt S d) (m.calls+1)) (by rw[hlen];omega)
  have g:((S.ns++[gz n (m.calls+1)]).getD d.toNat default)=nodeAt S d:=by
   unfold nodeAt;rw[kW,rk fy,<-kW]
  rw[g]at h1;have h3:gf (S.ns++[gz n (m.calls+1)])=gf S.ns:=by rw[qk];rfl
  grind [gA, nodeAt, gf, gz, Int.toNat]
 grind
def Nw {o:fL} {d:Int} (hm:kf m) (g:kY S) (F:gX p=true) (hq:iI p=some q) (hk:fK S.es q=some d) (C:(nodeAt S d).kind=1) (u:fK S.es p=none) (E:S.es.length<100) (B:fK S.es o=some k) (x:(nodeAt S k).kind≠1):
  tJ m S p o=0/\ZX S (pW m S p o) p q d k/\(pW m S p o).ns.length=S.ns.length:=by
 have n:=(hZ g.f B).1
 have he:tJ m S p o=0:=by
  unfold tJ;rw[hm.uw];dsimp only;rw[if_neg (λh=>h rfl),n,if_neg (λh=>h rfl),if_neg x,if_neg (by grind [DZ, kY.f])];unfold tB;rw[u,if_neg fU,if_neg fy]
 obtain⟨_,D,pA⟩:=hZ g.f hk;have y:q≠p:=fM
 have v:pW m S p o=⟨oN S.es p k,S.ns.set d.toNat (gA (nodeAt S d) (m.calls+1))⟩:=by
  unfold pW;rw[if_pos he,hm.uw,n];unfold tW;have h1:fK (oN S.es p k) q=some d:=by rw[vH u,if_neg y];exact hk
  exact A2 (t:=⟨oN S.es p k,S.ns⟩) (c:=m.calls+1) hq h1
 have w:kY (pW m S p o):=GB g (by rw[hm.uw];exact hm.sb.c);refine⟨he,⟨w,by grind [vH],by grind [vQ],λz h0 h1=>?_,?_⟩,by grind⟩
 .have:nodeAt (pW m S p o) z=if z=d then gA (nodeAt S d) (m.calls+1)else nodeAt S z:=by
   rw[v];show(S.ns.set d.toNat _).getD z.toNat default=_
   rw[HZ fy]
   by_cases e:z=d
   .grind
   .rw[if_neg e,if_neg fy];rfl
  rw[this]
  by_cases e:z=d
  .rw[if_pos e,e];exact⟨rfl,λh=>absurd fx h⟩
  .rw[if_neg e];exact⟨rfl,λ_=>rfl⟩
 grind [gf, Int.toNat, gA, nodeAt, fF, pV]
structure SP (S S':fZ) (k:Int) (x:Nd):Prop where
 g:kY S'
 e:S'.es=S.es
 l:S'.ns.length=S.ns.length
 n:∀z:Int,0<=z->nodeAt S' z=if z=k then x else nodeAt S z
 t:gf S'.ns+fF (nodeAt S k).data=gf S.ns+fF x.data
def Px (hk:0<=k/\k<S.ns.length) (d:kY ⟨S.es,S.ns.set k.toNat x⟩):SP S ⟨S.es,S.ns.set k.toNat x⟩ k x:=by
 refine⟨d,rfl,nS,λz f=>?_,pV x fy⟩;show(S.ns.set k.toNat x).getD z.toNat default=_
 rw[HZ fy]
 by_cases e:z=k
 .grind
 .rw[if_neg e,if_neg fy];rfl
def Q2 {e:Nd->Int} {d:Nd->Nd} (hm:kf m) (t:kY S) (v:fK S.es p=some k) (he:e (nodeAt S k)=0) (hk:(d (nodeAt S k)).kind=(nodeAt S k).kind) (g:fG (d (nodeAt S k))=true):
  nr m S p e d=0/\SP S (nL m S p e d) k (d (nodeAt S k)):=by
 obtain⟨h1,u⟩:=hZ t.f v;have w:hd (d (nodeAt S k))=true:=by unfold fG at g;rw[iU]at g;exact g.1
 have n:nr m S p e d=0:=by
  unfold nr;rw[hm.uw];dsimp only;rw[if_neg (λh=>h rfl),h1,if_neg (λh=>h rfl),if_neg (λh=>h he),if_neg (by rw[w];decide)]
 refine⟨n,?_⟩;unfold nL;rw[if_pos n,h1];exact Px u (t.set (i:=k.toNat) hk g)
def xt {f:Nd->Nd×Int} (g:kY S) (hc:0<=m.calls) (t:fK S.es p=some k) (d:(nodeAt S k).kind=2) (he:(f (nodeAt S k)).2=0) (hk:(f (nodeAt S k)).1.kind=2) (u:fG (f (nodeAt S k)).1=true):
  (ju m S p f=10/\m.mL<(gf S.ns:Int)-fF (nodeAt S k).data+fF (f (nodeAt S k)).1.data)\/(ju m S p f=0/\(gf S.ns:Int)-fF (nodeAt S k).data+fF (f (nodeAt S k)).1.data<=m.mL/\SP S (lK m S p f) k {(f (nodeAt S k)).1 with time:=m.calls}):=by
 obtain⟨h1,h3⟩:=hZ g.f t
 have n:ju m S p f=if m.mL<(gf S.ns:Int)-fF (nodeAt S k).data+fF (f (nodeAt S k)).1.data then 10 else 0:=by
  unfold ju;rw[h1,if_neg (λh=>h rfl),if_neg (by rw[d];decide),if_neg (λh=>h d),if_neg (λh=>h he)]
 by_cases hq:m.mL<(gf S.ns:Int)-fF (nodeAt S k).data+fF (f (nodeAt S k)).1.data
 .omega
 .have h0:ju m S p f=0:=by rw[n,if_neg hq]
  refine .inr ⟨h0,fy,?_⟩;unfold lK;rw[if_pos h0,h1];exact Px h3 (g.set (i:=k.toNat) (n':={(f (nodeAt S k)).1 with time:=m.calls}) (hk.trans d.symm) (kK u hc))
section
def rr (t:fZ) (i:Nat):Nat:=kE 0 (t.es.take i)
def pK (t:fZ) (k:Int):fL:=(ha t (gI t.es k)).path
theorem Ft {t:fZ} (h:gM t=true):jD t.ns.length 0 t.es=true/\kE 0 t.es=t.ns.length:=by
 grind [gM, jo]
theorem hU {t:fZ} (h:t.es[j]? =some e):ha t j=e:=by
 grind [ha]
theorem iL {t:fZ} (h:t.es[j]? =some e):gI t.es e.node<=j/\t.es[gI t.es e.node]? =some (ha t (gI t.es e.node))/\(ha t (gI t.es e.node)).node=e.node/\∀i x,t.es[i]? =some x->i<gI t.es e.node->x.node≠e.node:=by
 grind [List.getElem?_eq_some_iff, gI, Nat.le_of_not_lt, List.not_of_lt_findIdx, decide, List.length, List.getElem?_eq_getElem, hU, List.findIdx_getElem]
def qf {t:fZ} (h:gM t=true) (he:t.es[j]? =some e):0<=e.node/\e.node<=rr t j/\e.node<t.ns.length/\rr t (j+1)=(if e.node<rr t j then rr t j else rr t j+1)/\(e.node<rr t j↔gI t.es e.node<j):=by
 have n:=(Ft h).1;have w:=(jR.1 he).1
 have m:t.es.drop j=e::t.es.drop (j+1):=by
  rw[<-(jR.1 he).2];exact lX
 have h1:=n;rw[<-mJ j t.es,De,m,jD]at h1;simp only[iU,decide_eq_true_eq]at h1;obtain⟨d,⟨⟨h3,f⟩,g⟩,_⟩:=h1
 have hu:rr t (j+1)=(if e.node<rr t j then rr t j else rr t j+1):=by
  unfold rr;rw[j2,he]
  have:∀(a:ip En) (u:Nat) (b:En),kE u (a++[b])=if b.node<kE u a then kE u a else kE u a+1:=by
   intro a
   induction a with
   |nil=>intro u b;rfl
   |cons x a y=>grind [kE]
  exact this _ _ _
 refine⟨h3,f,g,hu,?_⟩;have hc:=sN (t.es.take j) 0 e.node.toNat d (iF _)
 have fY:e.node<rr t j↔0<ka e.node.toNat (t.es.take j):=by
  rw[hc];show e.node<((kE 0 (t.es.take j):Nat):Int)↔_
  omega
 rw[fY];unfold ka;rw[WM];obtain⟨f1,f2,f3,f4⟩:=iL he;constructor
 .grind [List.getElem_of_mem, List.length_take, List.getElem?_eq_getElem, Nat.lt_of_le_of_lt, Nat.le_of_not_lt]
 .intro v;refine⟨ha t (gI t.es e.node),?_,by simp[f3];omega⟩;exact jT (i:=gI t.es e.node) fM
theorem jQ {t:fZ} (h:ym t) {e':En} (he:t.es[i]? =some e) (n:t.es[j]? =some e') (u:e.path=e'.path):i=j/\e=e':=by
 have key:∀(i j:Nat) (a b:En),t.es[i]? =some a->t.es[j]? =some b->i<j->a.path≠b.path:=λi j a b f m fY=>by
  obtain⟨h1,rfl⟩:=jR.1 f;obtain⟨d,rfl⟩:=jR.1 m;have:=Hc.1 h.g.nd i j (by simpa using h1) (by simpa using d) fY;simpa using this
 grind
def nk {t:fZ} (h:ym t) (he:e∈t.es):fK t.es e.path=some e.node:=iH h.g.nd he
def EW {t:fZ} (h:ym t) (he:t.es[j]? =some e) (h0:e.path≠[]):∃i d,i<j/\t.es[i]? =some d/\iI e.path=some d.path/\(nodeAt t d.node).kind=1:=by
 have hm:=jT he
 have B:fX e.path≠[]:=λh1=>by
  rcases qB.1 h1 with f|f
  .exact h0 f
  .rw[h.g.path e hm]at f;cases f
 obtain⟨d,v,h1,f,h3⟩:=Kq h hm B;obtain⟨i,hi,n⟩:=BV v;have w:t.es[i]? =some d:=by rw[<-n];exact fM
 refine⟨i,d,?_,w,h1,h3⟩
 have fY:ix d.path e.path=true:=by
  unfold ix;rw[f];exact C3 _ _
 obtain⟨y,x⟩:=jR.1 he;refine Nat.lt_of_not_le λhle=>?_
 rcases p9 j i with u|u
 .have:=Hc.1 h.a j i y hi u;rw[x,n]at this;have m:=tX (show jc (fX e.path) (fX d.path)=true from this);rw[show jc (fX d.path) (fX e.path)=true from fY]at m;cases m
 grind [Option.some.inj, ix, tX]
structure By (U t:fZ) (D:fL->Bool) (i c b:Nat) (S:fZ):Prop where
 g:kY S
 l:S.es.length<=U.es.length+i
 le:(∀e∈t.es,D e.path=false)->S.es.length+1=U.es.length+i
 pr:∀j e,t.es[j]? =some e->j<i\/D e.path=true->∃z,fK S.es e.path=some z/\fK S.es (pK t e.node)=some z/\(nodeAt S z).kind=(nodeAt t e.node).kind
 ab:∀j e,t.es[j]? =some e->i<=j->D e.path=false->fK S.es e.path=none
 inj:∀e∈t.es,∀e'∈t.es,∀z,fK S.es e.path=some z->fK S.es e'.path=some z->e.node=e'.node
 ol:∀p,(∀e∈t.es,e.path≠p)->fK S.es p=fK U.es p/\∀z,fK U.es p=some z->nodeAt S z=nodeAt U z/\∀e∈t.es,fK S.es e.path≠some z
 ct:∀j e z,t.es[j]? =some e->j<c->fK S.es e.path=some z->Ct (nodeAt S z) (nodeAt t e.node)
 to:gf S.ns=gf U.ns+gf (t.ns.take (rr t c))+b
variable {t:fZ}
def By.ent {B:fZ} {N:Int} (Q:gM t=true) (O:∀e∈t.es,D e.path=true->(nodeAt t e.node).kind=1) (h:By U t D i i b S) (he:t.es[i]? =some e) (ad:D e.path=false) (v:ZX S B e.path q N k) (hq:∃x∈t.es,x.path=q) (ah:fK S.es q=some N) (hk:(nodeAt B k).kind=(nodeAt t e.node).kind)
  (w:(gI t.es e.node=i/\k=S.ns.length)\/(gI t.es e.node<i/\fK S.es (pK t e.node)=some k)):By U t D (i+1) i b B:=by
 have J:=(hv Q).f;have hm:=jT he;have L:∀p z,fK S.es p=some z->0<=z/\z<S.ns.length:=λp z m=>(hZ h.g.f m).2
 have K:∀j x,t.es[j]? =some x->j≠i->x.path≠e.path:=by grind [jQ]
 have hold:∀r,r≠e.path->fK B.es r=fK S.es r:=by grind [ZX.f]
 have X:fK B.es e.path=some k:=by rw[v.f,if_pos rfl]
 have ae:∀j x,t.es[j]? =some x->j<i\/D x.path=true->pK t x.node≠e.path:=λj x d u F=>by
  obtain⟨f1,f2,f3,f4⟩:=iL d;have:=jQ J f2 he F;rcases u with u|u
  .omega
  .have G:=O x (jT d) u;have I:=J.g.dir x fM G e hm fM
   grind
 have ag:∀z:Int,0<=z->z<S.ns.length->(nodeAt B z).kind=(nodeAt S z).kind:=λz h0 h1=>(v.n z h0 h1).1.ct.1
 refine⟨v.g,by have:=h.l;have:=v.l;omega,λm=>by have:=h.le m;have:=v.l;omega,λj x d u=>?_,λj x d u R=>?_,λx d y C z m M=>?_,λp F=>?_,λj x z d u m=>?_,by grind [ZX.t, to]⟩
 .by_cases af:j=i
  .grind [Option.some.inj, pK, hU, iL, jQ]
  .have T:j<i\/D x.path=true:=fM;obtain⟨z,h1,H,h3⟩:=h.pr j x d T
   grind
 .rw[hold _ (K j x d fy)];exact h.ab j x d fy R
 ·
  have key:∀x∈t.es,∀y∈t.es,x.path=e.path->y.path≠e.path->fK S.es y.path=some k->x.node=y.node:=λx d y C aj al Z=>by
   obtain rfl:x=e:=by
    obtain⟨aa,V⟩:=tq d
    grind
   rcases w with⟨_,w⟩|⟨w,W⟩
   .grind
   .obtain⟨_,f2,f3,_⟩:=iL he;have:=h.inj _ fM y C k W Z;omega
  by_cases G:x.path=e.path
  .by_cases E:y.path=e.path
   .obtain⟨aa,V⟩:=tq d
    grind [List.getElem?_of_mem, jQ]
   grind
  .rw[hold _ G]at m
   by_cases E:y.path=e.path
   .grind
   .rw[hold _ E]at M;exact h.inj x d y C z m M
 .have ai:p≠e.path:=fM;obtain⟨h1,H⟩:=h.ol p F;refine⟨by grind,λz m=>?_⟩;obtain⟨h3,I⟩:=H z m;obtain⟨r1,r2⟩:=L p z (h1.trans m);obtain⟨x,d,ak⟩:=hq;refine⟨((v.n z r1 r2).2 fM).trans h3,λy C=>?_⟩
  by_cases E:y.path=e.path
  .rw[E,X];intro e';obtain rfl:=jb e';rcases w with⟨_,w⟩|⟨_,w⟩
   .omega
   .obtain⟨_,f2,_,_⟩:=iL he;exact I _ fM w
  grind
 .have Y:x.path≠e.path:=K j x d fy;rw[hold _ Y]at m;obtain⟨r1,r2⟩:=L _ _ m;exact(v.n z r1 r2).1.ct.t (h.ct j x z d u m)
def By.nod {c b':Nat} {C:fZ} (h:By U t D i c b S) (he:e∈t.es) (E:fK S.es e.path=some k) (m:SP S C k x) (hk:x.kind=(nodeAt t e.node).kind) (hc:∀j y,t.es[j]? =some y->j<c->y.node=e.node->Ct x (nodeAt t e.node)) (M:b'+fF (nodeAt S k).data=b+fF x.data):By U t D i c b' C:=by
 have F:∀p z,fK S.es p=some z->0<=z/\z<S.ns.length:=λp z d=>(hZ h.g.f d).2
 refine⟨m.g,by rw[m.e];exact h.l,by grind [SP.e, le],λj y u v=>?_,λj y u v H=>by rw[m.e];exact h.ab j y u v H,λy u K J z d G=>by rw[m.e]at d G;exact h.inj y u K J z d G,λp I=>?_,λj y z u v d=>?_,by grind [SP.t, to]⟩
 .obtain⟨z,h1,B,h3⟩:=h.pr j y u v;refine⟨z,by rw[m.e];exact h1,by rw[m.e];exact B,?_⟩;rw[m.n z (F _ _ h1).1]
  by_cases d:z=k
  .rw[if_pos d,hk,h.inj y fM e he z h1 (by rw[d];exact E)]
  grind
 .obtain⟨h1,B⟩:=h.ol p I;refine⟨by rw[m.e];exact h1,λz d=>?_⟩;obtain⟨h3,L⟩:=B z d;have w:z≠k:=fM;exact⟨by rw[m.n z fM,if_neg w];exact h3,by grind [SP.e]⟩
 .rw[m.e]at d;rw[m.n z (F _ _ d).1]
  by_cases w:z=k
  .have N:=h.inj y fM e he z d (by rw[w];exact E)
   grind
  .rw[if_neg w];exact h.ct j y z u v d
def By.whole (d:gM t=true) (h:By U t D (i+1) i b S) (he:t.es[i]? =some e) (hc:∀z,fK S.es e.path=some z->Ct (nodeAt S z) (nodeAt t e.node)) (w:b=if gI t.es e.node<i then 0 else fF (nodeAt t e.node).data):By U t D (i+1) (i+1) 0 S:=by
 refine⟨h.g,h.l,h.le,h.pr,h.ab,h.inj,h.ol,λj x z f y m=>?_,?_⟩
 .by_cases B:j=i
  .grind
  .exact h.ct j x z f fy m
 .obtain⟨h1,n,h3,u,v⟩:=qf d he
  grind [to, gI, rr, Int.toNat, nodeAt, List.getElem?_eq_getElem, List.length, oZ]
end
section
def pZ (m:hA) (k:Nat):hA:={m with calls:=m.calls+(k:Int)}
theorem kf.pZ {m:hA} (h:kf m) (k:Nat):kf (pZ m k):=⟨h.f,h.d,by have:=h.c;show 0<=m.calls+(k:Int);omega⟩
theorem oX (m:hA) (j k:Nat):pZ (pZ m j) k=pZ m (j+k):=by
 grind [pZ, Int.add_assoc, Int.natCast_add]
theorem EP (m:hA):sb m=pZ m 1:=rfl
def zP (m:hA):pZ m 0=m:=by simp_all [pZ,Int.natCast_zero]
def Out (U t:fZ) (m:hA) (k:Nat) (P:fZ->Prop) (r:Int×hA×fZ):Prop:=(r.1=10/\m.mL<((gf U.ns+gf t.ns:Nat):Int))\/(r.1=0/\r.2.1=pZ m k/\P r.2.2)
variable {t:fZ}
theorem Out.nil {P:fZ->Prop} (h:P S):Out U t m 0 P (runM t [] m S):= .inr ⟨rfl,(zP m).symm,h⟩
def Out.one {s:oY} {P:fZ->Prop} (h:Out U t m 1 P (n3 m S t s)):Out U t m 1 P (runM t [s] m S):=by
 grind [runM]
def Out.app {a b:ip oY} {k:Nat} {P Q:fZ->Prop} (h:Out U t m j P (runM t a m S)) (g:∀f,P f->Out U t (pZ m j) k Q (runM t b (pZ m j) f)):Out U t m (j+k) Q (runM t (a++b) m S):=by
 rw[Hi];rcases h with⟨h1,d⟩|⟨h1,d,h3⟩
 .rw[if_pos (by rw[h1];decide)];exact .inl ⟨h1,d⟩
 .rw[if_neg (λh=>h h1),d];rcases g _ h3 with⟨g1,g2⟩|⟨g1,g2,g3⟩
  .exact .inl ⟨g1,g2⟩
  .exact .inr (by grind [oX])
def Out.mono {k:Nat} {P Q:fZ->Prop} {r:Int×hA×fZ} (h:Out U t m k P r) (d:∀S,P S->Q S):Out U t m k Q r:=h.imp id fM
structure ZM (n:Nd):Prop where
 s0:0<=n.size
 s1:n.size<=1099511627776
 dl:n.data.length<=16
 by_:fF n.data<=4000
 sep:jB 1 n.data
 pc:∀p∈n.data,p.data≠[]/\0<=p.pos/\gU p<=n.size
def Ml (h:fG n=true) (hk:n.kind=2):ZM n:=by
 unfold fG at h;rw[hk,if_neg fU,if_pos rfl]at h;unfold jV at h;simp only[iU,decide_eq_true_eq,ld]at h;obtain⟨_,⟨⟨⟨⟨⟨⟨h1,d⟩,h3⟩,t⟩,f⟩,g⟩,_⟩,_⟩:=h;have m:∀p∈n.data,p.data≠[]:=by grind [j3]
 obtain⟨g1,g2,_⟩:=(ext_iff n.size n.data (-1) m).1 g;exact⟨h1,d,h3,f,g1,fM⟩
structure Wr (n:Nd) (j:Nat) (x:Nd):Prop where
 k:x.kind=2
 d:x.data=n.data.take j
 s:x.size=rH (n.data.take j)
 t:x.target=n.target/\x.major=n.major/\x.minor=n.minor
def JI {p:hT} (h:l[j]? =some p):rH (l.take (j+1))=gU p:=by
 grind [rH, List.take_add_one]
theorem Ax:∀(l:ip hT) (j:Nat),fF (l.take j)<=fF l
 |[],j=>by grind
 |p::l,0=>iF _
 |p::l,j+1=>by
  have:=Ax l j
  grind [fF]
def sZ {p:hT} (v:fG n=true) (hk:n.kind=2) (H:fG x=true) (hw:Wr n j x) (f:n.data[j]? =some p):(gy x p.pos p.data).2=0/\Wr n (j+1) (gy x p.pos p.data).1:=by
 have F:=Ml v hk;obtain⟨p1,p2,I⟩:=F.pc p fM;have u:gU p=p.pos+(p.data.length:Int):=rfl;have hlen:=rP.2 p1;have G:=F.s1;have g:n.data.take (j+1)=n.data.take j++[p]:=by rw[j2,f];rfl
 have w:jB 1 (n.data.take j++[p]):=by rw[<-g];exact F.sep.sublist (List.take_sublist _ _)
 have y:=ke.1 w;have D:∀q∈n.data.take j,gU q+1<=p.pos:=lX
 have B:qZ x.data p.pos p.data=n.data.take (j+1):=by
  rw[hw.d,g,XG y.1 λq hq=>?_];have:=F.pc q fM;exact fM
 have C:fF (n.data.take (j+1))<=4000:=ly (Ax _ _) F.by_;have E:(n.data.take (j+1)).length<=16:=by rw[kv];have:=F.dl;omega
 have m:gy x p.pos p.data=({x with data:=n.data.take (j+1),size:=max x.size (p.pos+(p.data.length:Int))},0):=by
  unfold gy;rw[if_neg (by grind [Wr.k]),if_neg fy,if_neg p1,B,if_neg fy]
 rw[m];refine⟨rfl,hw.k,rfl,?_,hw.t⟩;show max x.size (p.pos+(p.data.length:Int))=_
 rw[JI f,hw.s,u]
 grind [rH, List.length, List.mem_of_getLast?]
def Tk (g:fG n=true) (hk:n.kind=2) (u:fG x=true) (hw:Wr n n.data.length x):(kx x n.size).2=0/\(kx x n.size).1={x with data:=n.data,size:=n.size}:=by
 have F:=Ml g hk;have h1:=F.s0;have t:=F.s1;have f:x.data=n.data:=by rw[hw.d,kh]
 unfold kx;rw[if_neg (by grind [Wr.k]),f,vC λp m=>?_]
 .grind
 .have:=F.pc p m;omega
def Dj (d:gM t=true) (he:t.es[i]? =some e) (v:gI t.es e.node=i):gf (t.ns.take (rr t i))+fF (nodeAt t e.node).data<=gf t.ns:=by
 obtain⟨h1,m,h3,n,u⟩:=qf d he;have hu:¬e.node<rr t i:=fy;have g:e.node.toNat=rr t i:=fy
 have f:t.ns[rr t i]? =some (nodeAt t e.node):=by
  unfold nodeAt;rw[g,kW,j9 fy];rfl
 rw[<-oZ f]
 conv=>rhs;rw[<-mJ (rr t i+1) t.ns]
 grind [qk]
structure Hand (U t:fZ) (D:fL->Bool) (i j:Nat) (e:En) (S:fZ):Prop where
 a:By U t D (i+1) i (fF ((nodeAt t e.node).data.take j)) S
 w:∃k,fK S.es e.path=some k/\Wr (nodeAt t e.node) j (nodeAt S k)
def wb (h:kY S) (d:fK S.es p=some k):fG (nodeAt S k)=true:=by
 have:=hZ h.f d;exact h.node (i:=k.toNat) fy
def Pr {p:hT} (E:gM t=true) (hm:kf m) (he:t.es[i]? =some e) (K:gI t.es e.node=i) (hk:(nodeAt t e.node).kind=2) (B:(nodeAt t e.node).data[j]? =some p) (h:Hand U t D i j e S):Out U t m 1 (Hand U t D i (j+1) e) (n3 m S t ⟨3,e.path,[],(j:Int)⟩):=by
 have C:=hv E;have x:=jT he;have L:fG (nodeAt t e.node)=true:=C.f.g.node e x;obtain⟨k,v,hw⟩:=h.w;have F:=wb h.a.g v;have T:=(jR.1 B).1;obtain⟨Q,u⟩:=sZ L hk F hw B;have M:fG (gy (nodeAt S k) p.pos p.data).1=true:=lR F _ _;have hs:tV m p.data=p.data:=by unfold tV;rw[hm.uw,if_neg (show ¬(0:Int)=2 by decide)]
 have H:n3 m S t ⟨3,e.path,[],(j:Int)⟩=(qh m S e.path p.pos p.data,(gj m).2.2,oE m S e.path p.pos p.data):=by
  unfold n3;dsimp only;rw[nk C.f x];dsimp only;rw[if_neg fU,if_neg fU];unfold uy;dsimp only;rw[if_neg fU,if_pos rfl,if_neg fy,je,kW,B];rfl
 have I:qh m S e.path p.pos p.data=ju (sb m) S e.path (λn=>gy n p.pos p.data):=by
  unfold qh;rw[hm.uw,if_neg (λh=>h.2 rfl),hs];dsimp only;split
  .rfl
  .omega
 have J:oE m S e.path p.pos p.data=lK (sb m) S e.path (λn=>gy n p.pos p.data):=by
  unfold oE;rw[hm.uw,if_neg (λh=>h.2 rfl),hs]
 rw[H,I,J,hm.uw];have R:fF ((nodeAt t e.node).data.take (j+1))<=fF (nodeAt t e.node).data:=Ax _ _;have W:=h.a.to;have X:=Dj E he K;rcases xt (m:=sb m) (f:=λn=>gy n p.pos p.data) h.a.g hm.sb.c v hw.k Q u.k M with⟨c1,c2⟩|⟨c1,c2,c3⟩
 .refine .inl ⟨c1,?_⟩;rw[u.d,hw.d]at c2;have c2:m.mL<(gf S.ns:Int)-fF ((nodeAt t e.node).data.take j)+fF ((nodeAt t e.node).data.take (j+1)):=c2;omega
 .refine .inr ⟨c1,rfl,?_⟩
  have G:=h.a.nod (b':=fF ((nodeAt t e.node).data.take (j+1))) x v c3 (by grind [gy, nodeAt, Wr.k]) (λO y N V Y=>by
   have:=(iL he).2.2.2 O y N fy
   grind) (by
   grind [fF, gy, nodeAt, Wr.d])
  refine⟨G,k,by grind [SP.e],?_⟩;rw[c3.n k (hZ h.a.g.f v).2.1,if_pos rfl];exact⟨u.k,u.d,u.s,u.t⟩
def UW (v:gM t=true) (hm:kf m) (he:t.es[i]? =some e) (J:gI t.es e.node=i) (hk:(nodeAt t e.node).kind=2) (h:Hand U t D i (nodeAt t e.node).data.length e S):Out U t m 1 (By U t D (i+1) (i+1) 0) (n3 m S t ⟨4,e.path,[],0⟩):=by
 have B:=hv v;have x:=jT he;have K:fG (nodeAt t e.node)=true:=B.f.g.node e x;obtain⟨k,u,hw⟩:=h.w;have C:=wb h.a.g u;obtain⟨Q,R⟩:=Tk K hk C hw
 have G:n3 m S t ⟨4,e.path,[],0⟩=(AQ m S e.path (nodeAt t e.node).size,(gj m).2.2,wo m S e.path (nodeAt t e.node).size):=by
  unfold n3;dsimp only;rw[nk B.f x];dsimp only;rw[if_neg fU,if_neg fU];unfold uy;dsimp only;rw[if_neg fU,if_neg fU,if_pos rfl]
 have H:AQ m S e.path (nodeAt t e.node).size=ju (sb m) S e.path (λn=>kx n (nodeAt t e.node).size):=by
  unfold AQ;rw[hm.uw,if_neg (λh=>h rfl)]
 have I:wo m S e.path (nodeAt t e.node).size=lK (sb m) S e.path (λn=>kx n (nodeAt t e.node).size):=by
  unfold wo;rw[hm.uw,if_neg (λh=>h rfl)]
 rw[G,H,I,hm.uw];have L:=h.a.to;have W:=Dj v he J;have T:(nodeAt S k).data=(nodeAt t e.node).data:=by rw[hw.d,kh]
 rw[kh]at L;rcases xt (m:=sb m) (f:=λn=>kx n (nodeAt t e.node).size) h.a.g hm.sb.c u hw.k Q (by grind [kx, nodeAt, Wr.k]) (yC C _)with⟨c1,c2⟩|⟨c1,c2,c3⟩
 .refine .inl ⟨c1,?_⟩;have c2:m.mL<(gf S.ns:Int)-fF (nodeAt S k).data+fF (kx (nodeAt S k) (nodeAt t e.node).size).1.data:=c2
  grind
 .refine .inr ⟨c1,rfl,?_⟩;have M:({(kx (nodeAt S k) (nodeAt t e.node).size).1 with time:=(sb m).calls}:Nd)={nodeAt S k with data:=(nodeAt t e.node).data,size:=(nodeAt t e.node).size,time:=(sb m).calls}:=by rw[R]
  have c3:SP S (lK (sb m) S e.path (λn=>kx n (nodeAt t e.node).size)) k {nodeAt S k with data:=(nodeAt t e.node).data,size:=(nodeAt t e.node).size,time:=(sb m).calls}:=by rw[<-M];exact c3
  have F:=h.a.nod (b':=fF (nodeAt t e.node).data) x u c3 (by grind [nodeAt, Wr.k]) (λO y N V X=>by
   have:=(iL he).2.2.2 O y N fy
   grind) (by
   grind)
  refine F.whole v he (λz E=>?_) fM;rw[c3.e,u]at E;obtain rfl:=jb E;rw[c3.n k (hZ h.a.g.f u).2.1,if_pos rfl];exact⟨hw.k.trans hk.symm,rfl,rfl,hw.t.1,hw.t.2.1,hw.t.2.2⟩
theorem Bh {i:Nat} {e:En} (d:gM t=true) (he:t.es[i]? =some e) (f:gI t.es e.node=i) (hk:(nodeAt t e.node).kind=2) {m:hA} (hm:kf m) {S:fZ} (h:Hand U t D i 0 e S):∀j,j<=(nodeAt t e.node).data.length->Out U t m j (Hand U t D i j e) (runM t (IW e.path j) m S)
 |0,_=>Out.nil h
 | j+1,w=>by
  have u:=Bh d he f hk hm h j fy
  have g:IW e.path (j+1)=IW e.path j++[⟨3,e.path,[],(j:Int)⟩]:=by
   unfold IW;rw[tG,pw];rfl
  rw[g];exact u.app λv n=>Out.one (Pr d (hm.pZ j) he f hk (j9 fy) n)
def RH (n:gM t=true) (he:t.es[i]? =some e) (B:gI t.es e.node=i) (hk:(nodeAt t e.node).kind=2) (hm:kf m) (h:Hand U t D i 0 e S):Out U t m (oV e.path (nodeAt t e.node)).length (By U t D (i+1) (i+1) 0) (runM t (oV e.path (nodeAt t e.node)) m S):=by
 have E:=hv n;have H:=jT he;have J:fG (nodeAt t e.node)=true:=E.f.g.node e H;have G:(IW e.path (nodeAt t e.node).data.length).length=(nodeAt t e.node).data.length:=by unfold IW;rw[jv,CA]
 have h1:=Bh n he B hk hm h _ (gJ _);unfold oV;rw[if_pos hk,ib,G];refine h1.app λI u=>?_
 by_cases v:(nodeAt t e.node).size=rH (nodeAt t e.node).data
 .rw[if_pos v];refine Out.nil ?_;have y:=u.a;rw[kh]at y;obtain⟨k,F,hw⟩:=u.w;refine y.whole n he (λz C=>?_) fM;rw[F]at C;obtain rfl:=jb C;have x:=hw.d;have h3:=hw.s;rw[kh]at x h3;exact⟨hw.k.trans hk.symm,h3.trans v.symm,x,hw.t.1,hw.t.2.1,hw.t.2.2⟩
 .rw[if_neg v];exact Out.one (UW n (hm.pZ _) he B hk u)
theorem vq (h:fG n=true) (hk:n.kind≠2):Ct (gz n c) n:=by
 have d:n.size=0/\n.data=[]:=by
  unfold fG iv at h
  grind
 exact⟨rfl,d.1.symm,d.2.symm,rfl,rfl,rfl⟩
theorem AP (h:fG n=true) (hk:n.kind≠2):fF n.data=0:=by
 have:=(vq (c:=0) h hk).2.2.1;rw[<-this];rfl
def Q4 (y:gM t=true) (J:∀e∈t.es,D e.path=true->(nodeAt t e.node).kind=1) (hlen:U.es.length+t.es.length<=100) (he:t.es[i]? =some e) (h0:e.path≠[]) (hm:kf m) (h:By U t D i i 0 S):
  Out U t m (if D e.path then([]:ip oY)else ou t i).length (By U t D (i+1) (i+1) 0) (runM t (if D e.path then[]else ou t i) m S):=by
 have v:=hv y;have C:=jT he;have L:fG (nodeAt t e.node)=true:=v.f.g.node e C;have hi:=(jR.1 he).1;obtain⟨f1,f2,f3,f4⟩:=iL he;cases F:D e.path with
 | true=>
  rw[if_pos rfl];refine Out.nil ?_;have u:=J e C F;have w:gI t.es e.node=i:=(jQ v.f f2 he (by rw[v.f.g.dir e C u _ fM f3])).1
  have B:By U t D (i+1) i 0 S:=⟨h.g,by have:=h.l;omega,fM,λj x E ak=>h.pr j x E (by
   grind),λj x E ak=>h.ab j x E fy,h.inj,h.ol,h.ct,h.to⟩
  refine B.whole y he (λz G=>?_) (by grind [AP]);obtain⟨au,h1,_,h3⟩:=h.pr i e he (.inr F);rw[G]at h1;obtain rfl:=jb h1;have E:=wb h.g G;have c1:=vq (c:=0) E (by rw[h3,u];decide);have c2:=vq (c:=0) L (by rw[u];decide);have aq:=h3;have key:∀x:Nd,fG x=true->x.kind=1->x.size=0/\x.data=[]/\x.target=[]/\x.major=0/\x.minor=0:=by grind [fG, iv, jz, jL]
  obtain⟨Z,a2,a3,a4,a5⟩:=key _ E (h3.trans u);obtain⟨aa,ad,ae,af,ag⟩:=key _ L u;exact⟨h3,Z.trans aa.symm,a2.trans ad.symm,a3.trans ae.symm,a4.trans af.symm,a5.trans ag.symm⟩
 | false=>
  rw[if_neg fU];obtain⟨an,d,al,N,X,am⟩:=EW v.f he h0;obtain⟨ao,p1,p2,ap⟩:=h.pr an d N (.inl al);have O:=jT N;have T:(nodeAt S ao).kind=1:=ap.trans am;have Y:=v.f.g.path e C;have W:=h.ab i e he (gJ _) F;have V:S.es.length<100:=by have:=h.l;omega
  have R:=nk v.f C;have Q:ha t i=e:=hU he
  by_cases w:gI t.es e.node<i
  ·
   have u:(nodeAt t e.node).kind≠1:=λhk=>by
    have h1:=v.f.g.dir e C hk _ fM f3;have:=(jQ v.f f2 he (by rw[h1])).1;omega
   obtain⟨k,k1,k2,k3⟩:=h.pr _ _ f2 (.inl w);rw[f3]at k3
   have aj:fK t.es (ha t (gI t.es e.node)).path=some e.node:=by
    rw[nk v.f fM,f3]
   obtain⟨g1,g2,g3⟩:=Nw hm h.g Y X p1 T W V k1 (by rw[k3];exact u);unfold ou;rw[Q,if_neg u,if_pos w];refine Out.one ?_
   have H:n3 m S t ⟨5,e.path,(ha t (gI t.es e.node)).path,0⟩=(tJ m S e.path (ha t (gI t.es e.node)).path,(gj m).2.2,pW m S e.path (ha t (gI t.es e.node)).path):=by
    unfold n3;dsimp only;rw[R];dsimp only;rw[if_pos rfl,aj,if_neg iB]
   rw[H,hm.uw];refine .inr ⟨g1,rfl,?_⟩;have I:=(hZ h.g.f k1).2;have B:=h.ent y J he F g2 ⟨d,O,rfl⟩ p1 (by rw[((g2.n k I.1 I.2).1.ct).1];exact k3) (.inr ⟨w,k1⟩);refine B.whole y he (λz G=>?_) (by rw[if_pos w]);rw[g2.f,if_pos rfl]at G;obtain rfl:=jb G;have:=h.ct _ _ k f2 w k1;rw[f3]at this;exact(g2.n k I.1 I.2).1.ct.t this
  .have w:gI t.es e.node=i:=fy;obtain⟨g1,g2,g3,g4⟩:=Ni hm h.g Y X p1 T W V L;have B:=h.ent y J he F g2 ⟨d,O,rfl⟩ p1 (by rw[g4];rfl) (.inl ⟨w,rfl⟩);have ai:fK (mq m S e.path (nodeAt t e.node)).es e.path=some (S.ns.length:Int):=by rw[g2.f,if_pos rfl]
   have H:∀c:Int,c=1\/c=2->Out U t m 1 (λM=>M=mq m S e.path (nodeAt t e.node)) (n3 m S t ⟨c,e.path,[],0⟩):=λc hc=>by
    have:n3 m S t ⟨c,e.path,[],0⟩=(qQ m S e.path (nodeAt t e.node),(gj m).2.2,mq m S e.path (nodeAt t e.node)):=by
     unfold n3;dsimp only;rw[R];dsimp only;rw[if_neg fy,if_neg fy];unfold uy;dsimp only;rw[if_pos hc]
    rw[this,hm.uw];exact .inr ⟨g1,rfl,rfl⟩
   have ar:(nodeAt t e.node).kind≠2->By U t D (i+1) (i+1) 0 (mq m S e.path (nodeAt t e.node)):=λK=>
    B.whole y he (by grind [Option.some.inj, vq]) (by grind [AP])
   unfold ou;rw[Q]
   by_cases u:(nodeAt t e.node).kind=1
   .rw[if_pos u];exact(Out.one (H 1 (.inl fx))).mono fM
   .rw[if_neg u,if_neg fy,iP,Qt];show Out U t m _ _ (runM t ([⟨2,e.path,[],0⟩]++oV e.path (nodeAt t e.node)) m S)
    refine(Out.one (H 2 (.inr fx))).app λM ah=>?_
    subst ah
    by_cases K:(nodeAt t e.node).kind=2
    .exact RH y he w K (hm.pZ 1) ⟨B,_,ai,by
      rw[g4]
      exact⟨K,rfl,rfl,rfl,rfl,rfl⟩⟩
    grind [oV, Out.nil]
theorem Dc (d:gM t=true) (n:∀e∈t.es,D e.path=true->(nodeAt t e.node).kind=1) (hlen:U.es.length+t.es.length<=100) {m:hA} (hm:kf m) {S:fZ} (h:By U t D 1 1 0 S):∀k,1<=k->k<=t.es.length->Out U t m (oy t D k).length (By U t D k k 0) (runM t (oy t D k) m S)
 |0,h1,_=>absurd h1 fU
 |1,_,_=>Out.nil h
 | k+2,_,hk=>by
  have E:=Dc d n hlen hm h (k+1) fy fy;obtain⟨e,he⟩:∃e,t.es[k+1]? =some e:=⟨_,j9 fy⟩;have y:ha t (k+1)=e:=hU he
  have w:oy t D (k+2)=oy t D (k+1)++(if D e.path then[]else ou t (k+1)):=by
   unfold oy;rw[tG,P2 iB,ue,DD,y]
  rw[w,ib];refine E.app λF x=>?_
  have h0:e.path≠[]:=λJ=>by
   have u:=(hv d).f;obtain⟨r,C,K,_⟩:=u.g.root;obtain⟨j,H⟩:=tq C
   have G:∃r0,t.es[0]? =some r0/\r0.path=[]:=by
    obtain⟨r0,v⟩:∃r0,t.es[0]? =some r0:=fM;refine⟨r0,v,?_⟩;refine I8 λB=>?_
    obtain⟨L,_,I,_⟩:=EW u v B;omega
   grind [jQ]
  exact Q4 d n hlen he h0 (hm.pZ _) x
end
theorem Bn (f:Int->Int):∀(l:ip En) (s:ip Int),(∀a∈s++l.map (·.node),∀b∈s++l.map (·.node),f a=f b->a=b)->iJ (s.map f) (l.map (Ri f))=((iJ s l).1,(iJ s l).2.map f)
 |[],_,_=>rfl
 | e::r,s,t=>by
  have u:∀a∈s,f a=f e.node->a=e.node:=fM;have hm:f e.node∈s.map f↔e.node∈s:=fM
  have v:∀d:ip Int,(∀a∈d,a∈s)->(d.map f).idxOf (f e.node)=d.idxOf e.node:=λd hs=>by
   induction d with
   |nil=>rfl
   |cons a d w=>
    grind
  have h1:∀a∈s++r.map (·.node),∀b∈s++r.map (·.node),f a=f b->a=b:=fM;have n:∀a∈(s++[e.node])++r.map (·.node),∀b∈(s++[e.node])++r.map (·.node),f a=f b->a=b:=fM;rw[jj,iJ,iJ];show(if f e.node∈s.map f then _ else _)=_
  by_cases h:e.node∈s
  .rw[if_pos (hm.2 h),if_pos h,Bn f r s h1]
   grind [Ri]
  .rw[if_neg (λm=>h (hm.1 m)),if_neg h];have g:s.map f++[(Ri f e).node]=(s++[e.node]).map f:=by rw[pw];rfl
   rw[g,Bn f r (s++[e.node]) n,jv];rfl
def MZ {t u x:fZ} (f:Int->Int) (G:∀a∈t.es,∀b∈t.es,f a.node=f b.node->a.node=b.node) (B:u.es.Perm (t.es.map (Ri f))) (m:∀e∈t.es,0<=f e.node/\f e.node<u.ns.length/\u.ns.getD (f e.node).toNat default=t.ns.getD e.node.toNat default) (h:hQ t=some x):hQ u=some x:=by
 have w:=Od h;obtain⟨h1,d,h3⟩:=w4 h;have hs:=l8 t.es;have n:=jk t.es;obtain⟨s,D⟩:∃s,s=jM t.es:=⟨_,rfl⟩;rw[<-D]at hs n d h3;have y:(s.map (Ri f)).map (·.path)=s.map (·.path):=by rw[rN];rfl
 have E:=rQ (λe he=>w.path e (n.mem_iff.1 he)) (by grind [tA.nd]) hs;have H:(s.map (Ri f)).Pairwise BP:=uY y.symm E;have F:jM u.es=s.map (Ri f):=by grind [sq, l8, jk]
 have v:∀a∈([]:ip Int)++s.map (·.node),∀b∈([]:ip Int)++s.map (·.node),f a=f b->a=b:=fM
 have C:jy u.ns (s.map (Ri f))=jy t.ns s:=by
  unfold jy;rw[show([]:ip Int)=([]:ip Int).map f from rfl,Bn f s [] v];dsimp only
  congr 1
  rw[rN];refine x5 λk hk=>?_
  obtain⟨e,he,rfl⟩:=((pI k s []).1 hk).resolve_left iB;exact fM
 unfold hQ;rw[F,C,Mw (λe he=>?_),iV,if_pos d,h3];obtain⟨e',g,rfl⟩:=lp.1 (B.mem_iff.1 he);exact⟨(m e' g).1,(m e' g).2.1⟩
section
def Uy:∀a:Nat,a<64->∀b:Nat,b<64->decide (0<=G4 ((64*a+b:Nat):Int))=true/\decide (G4 ((64*a+b:Nat):Int)<=4095)=true:=by decide+kernel
def Uh {z:Int} (h:0<=z/\z<=4095):0<=G4 z/\G4 z<=4095:=by
 obtain⟨n,rfl⟩:=lZ h.1;have:=Uy (n/64) fy (n% 64) fy
 grind
theorem PY {α:Type} {lt:α->α->Bool} (h:mM lt) {l:ip α} (d:kX lt none l=true):mM.Wk lt l:=((h.Gm l).1 d).imp λf=>h.asym f
def vP (h:fG n=true):hd n=true:=by grind [fG]
def Tj (h:hd n=true):mz n.attrs=(0,n.attrs):=by
 unfold hd at h;simp only[iU,decide_eq_true_eq]at h;obtain⟨⟨⟨_,h1⟩,d⟩,h3⟩:=h.1;exact EY d p7 (tE _) (PY p7 h3) h3 fy
def TT (h:hd n=true):j6 n.acl=(0,n.acl):=by
 grind [hd, om, qq, lz, acLt, EY, wm, List.Perm.refl, PY, j6]
variable {t:fZ}
structure tm (U t:fZ) (D:fL->Bool) (Q:Int->Prop) (S:fZ):Prop where
 a:By U t D t.es.length t.es.length 0 S
 f:∀e∈t.es,Q e.node->∀z,fK S.es e.path=some z->nodeAt S z=nodeAt t e.node
def vW {Q:Int->Prop} {s:oY} {er:Nd->Int} {d:Nd->Nd} (hm:kf m) (h:tm U t D Q S) (he:e∈t.es) (C:¬Q e.node) (u:fK S.es e.path=some k) (B:n3 m S t s=(nr m S e.path er d,(gj m).2.2,nL m S e.path er d)) (E:er (nodeAt S k)=0) (hc:Ct (d (nodeAt S k)) (nodeAt t e.node)) (G:fG (d (nodeAt S k))=true):
  (n3 m S t s).1=0/\(n3 m S t s).2.1=pZ m 1/\tm U t D Q (n3 m S t s).2.2/\fK (n3 m S t s).2.2.es e.path=some k/\nodeAt (n3 m S t s).2.2 k=d (nodeAt S k):=by
 have w:Ct (nodeAt S k) (nodeAt t e.node):=by
  obtain⟨j,F⟩:=tq he;exact h.a.ct j e k F fM u
 obtain⟨g1,g2⟩:=Q2 hm h.a.g u E (hc.1.trans w.1.symm) G;have H:=(hZ h.a.g.f u).2;rw[B,hm.uw];refine⟨g1,rfl,⟨h.a.nod he u g2 hc.1 (λ_ _ _ _ _=>hc) (by rw[hc.2.2.1,w.2.2.1]),λy x hq z v=>?_⟩,by grind [SP.e],by dsimp only;rw[g2.n k H.1,if_pos fx]⟩;dsimp only at v|-;rw[g2.e]at v;rw[g2.n z (hZ h.a.g.f v).2.1,if_neg (λe'=>C (by rw[h.a.inj e he y x k u fM];exact hq))];exact h.f y x hq z v
def PZ {Q:Int->Prop} (ar:gM t=true) (hm:kf m) (he:e∈t.es) (v:¬Q e.node) (h:tm U t D Q S):Out U t m 5 (tm U t D λk=>Q k\/k=e.node) (runM t (oz e.path) m S):=by
 have ab:=hv ar;have G:fG (nodeAt t e.node)=true:=ab.f.g.node e he;have B:=vP G;obtain⟨j,F⟩:=tq he;have J:=(jR.1 F).1;obtain⟨k,I,_,_⟩:=h.a.pr j e F (.inl J);have hc:Ct (nodeAt S k) (nodeAt t e.node):=h.a.ct j e k F J I;have ag:=wb h.a.g I;obtain⟨n,O⟩:∃n,n=nodeAt t e.node:=⟨_,rfl⟩;have aI:=B;rw[<-O]at G B hc;unfold hd at B;simp only[iU,decide_eq_true_eq]at B;obtain⟨⟨⟨⟨⟨⟨⟨⟨m1,m2⟩,m3⟩,m4⟩,m5⟩,m6⟩,m7⟩,m8⟩,m9⟩:=B;have aJ:=nk ab.f he;have w:∀(m:hA) (S:fZ) (c:Int),c≠5->c≠11->n3 m S t ⟨c,e.path,[],0⟩=uy m S n ⟨c,e.path,[],0⟩:=by grind [n3]
 have ok:∀{x x':Nd},fG x=true->hd x'=true->Ct x' x->fG x'=true:=λh1 aq h3=>nz h1 aq h3
 have R:=vP ag;unfold hd at R;simp only[iU,decide_eq_true_eq]at R;obtain⟨⟨⟨⟨⟨⟨⟨⟨aD,aE⟩,aL⟩,aM⟩,H⟩,aF⟩,aG⟩,aH⟩,al⟩:=R
 have N:0<=(pX n.uid n.gid (nodeAt S k)).mode/\(pX n.uid n.gid (nodeAt S k)).mode<=4095:=by
  show 0<=(if(nodeAt S k).kind=1 then(nodeAt S k).mode else G4 (nodeAt S k).mode)/\(if(nodeAt S k).kind=1 then(nodeAt S k).mode else G4 (nodeAt S k).mode)<=4095
  split
  .exact⟨aD,aE⟩
  .simp_all [Uh]
 have o1:fG (pX n.uid n.gid (nodeAt S k))=true:=ok ag (by
  unfold hd;simp only[iU,decide_eq_true_eq]
  exact⟨⟨⟨⟨⟨⟨⟨N,m3⟩,m4⟩,H⟩,aF⟩,aG⟩,aH⟩,al⟩) ⟨rfl,rfl,rfl,rfl,rfl,rfl⟩
 have o2:fG (tv n.attrs (pX n.uid n.gid (nodeAt S k)))=true:=ok o1 (by
  unfold hd;simp only[iU,decide_eq_true_eq]
  exact⟨⟨⟨⟨⟨⟨⟨N,m3⟩,m4⟩,H⟩,m6⟩,m7⟩,m8⟩,al⟩) ⟨rfl,rfl,rfl,rfl,rfl,rfl⟩
 have o3:fG (tR n.acl (tv n.attrs (pX n.uid n.gid (nodeAt S k))))=true:=ok o2 (by
  unfold hd;simp only[iU,decide_eq_true_eq]
  exact⟨⟨⟨⟨⟨⟨⟨N,m3⟩,m4⟩,H⟩,m6⟩,m7⟩,m8⟩,m9⟩) ⟨rfl,rfl,rfl,rfl,rfl,rfl⟩
 have o4:fG (rF n.mode (tR n.acl (tv n.attrs (pX n.uid n.gid (nodeAt S k)))))=true:=ok o3 (by
  unfold hd;simp only[iU,decide_eq_true_eq]
  exact⟨⟨⟨⟨⟨⟨⟨⟨m1,m2⟩,m3⟩,m4⟩,H⟩,m6⟩,m7⟩,m8⟩,m9⟩) ⟨rfl,rfl,rfl,rfl,rfl,rfl⟩
 have o5:gA (rF n.mode (tR n.acl (tv n.attrs (pX n.uid n.gid (nodeAt S k))))) n.time=n:=by
  obtain⟨c1,c2,c3,c4,c5,c6⟩:=hc;show(⟨(nodeAt S k).kind,n.mode,n.uid,n.gid,n.time,n.attrs,n.acl,(nodeAt S k).size,(nodeAt S k).data,(nodeAt S k).target,(nodeAt S k).major,(nodeAt S k).minor⟩:Nd)=n
  rw[c1,c2,c3,c4,c5,c6]
 have ae:=Tj (vP G);have af:=TT (vP G);have E:∀x:Nd,Ct x (nodeAt S k)->Ct x (nodeAt t e.node):=λx h1=>by rw[<-O];exact h1.t hc
 obtain⟨V,a2,a3,a4,a5⟩:=vW (s:=⟨6,e.path,[],0⟩) (er:=λ_=>0) (d:=pX n.uid n.gid) hm h he v I ((w _ _ 6 fU fU).trans rfl) rfl (E _ ⟨rfl,rfl,rfl,rfl,rfl,rfl⟩) o1;generalize aw:n3 m S t ⟨6,e.path,[],0⟩=r1 at V a2 a3 a4 a5;have K:=hm.pZ 1;rw[<-a2]at K;obtain⟨W,X,Y,Z,C⟩:=vW (s:=⟨7,e.path,[],0⟩) (er:=λ_=>(mz n.attrs).1) (d:=tv (mz n.attrs).2) K a3 he v a4 ((w _ _ 7 fU fU).trans rfl) (by rw[ae]) (by rw[a5];exact E _ ⟨rfl,rfl,rfl,rfl,rfl,rfl⟩) fM;generalize ax:n3 r1.2.1 r1.2.2 t ⟨7,e.path,[],0⟩=r2 at W X Y Z C;have L:=K.pZ 1;rw[<-X]at L;obtain⟨c1,c2,c3,c4,c5⟩:=vW (s:=⟨8,e.path,[],0⟩) (er:=λ_=>(j6 n.acl).1) (d:=tR (j6 n.acl).2) L Y he v Z ((w _ _ 8 fU fU).trans rfl) (by rw[af]) (by rw[C,a5];exact E _ ⟨rfl,rfl,rfl,rfl,rfl,rfl⟩) fM;generalize ay:n3 r2.2.1 r2.2.2 t ⟨8,e.path,[],0⟩=r3 at c1 c2 c3 c4 c5;have M:=L.pZ 1;rw[<-c2]at M;obtain⟨d1,d2,d3,d4,d5⟩:=vW (s:=⟨9,e.path,[],0⟩) (er:=λ_=>0) (d:=rF n.mode) M c3 he v c4 ((w _ _ 9 fU fU).trans rfl) rfl (by rw[c5,C,a5];exact E _ ⟨rfl,rfl,rfl,rfl,rfl,rfl⟩) fM;generalize az:n3 r3.2.1 r3.2.2 t ⟨9,e.path,[],0⟩=r4 at d1 d2 d3 d4 d5;have ad:=M.pZ 1;rw[<-d2]at ad
 have av:gA (nodeAt r4.2.2 k) n.time=n:=by
  rw[d5,c5,C,a5,ae,af];exact o5
 obtain⟨aa,ao,u,e4,ap⟩:=vW (s:=⟨10,e.path,[],0⟩) (er:=λ_=>0) (d:=λx=>gA x n.time) ad d3 he v d4 ((w _ _ 10 fU fU).trans rfl) rfl (by rw[av,O];exact⟨rfl,rfl,rfl,rfl,rfl,rfl⟩) fM;generalize aA:n3 r4.2.1 r4.2.2 t ⟨10,e.path,[],0⟩=r5 at aa ao u e4 ap
 have aB:runM t (oz e.path) m S=(0,r5.2.1,r5.2.2):=by
  unfold oz;rw[runM,aw,if_neg (λh=>h V),runM,ax,if_neg (λh=>h W),runM,ay,if_neg (λh=>h c1),runM,az,if_neg (λh=>h d1),runM,aA,if_neg (λh=>h aa)];rfl
 rw[aB];refine .inr ⟨rfl,?_,⟨u.a,λy ah hq z T=>?_⟩⟩
 .grind [oX]
 .dsimp only at T|-
  by_cases ai:y.node=e.node
  ·
   have aK:z=k:=by
    obtain⟨aC,au⟩:=tq ah;obtain⟨aN,am,an,_⟩:=u.a.pr aC y au fM;obtain⟨z2,aj,ak,_⟩:=u.a.pr j e F (.inl J);rw[T]at am;rw[e4]at aj;rw[ai]at an;rw[an]at ak;rw[jb am,jb aj];exact jb ak
   grind
  .exact u.f y ah (hq.resolve_right ai) z T
theorem sM (u:gM t=true) (pk:Nat->Bool) (n:∀i e,t.es[i]? =some e->pk i=true->gI t.es e.node=i):∀(k:Nat),k<=t.es.length->∀{m:hA},kf m->∀{S:fZ} {Q:Int->Prop},(∀i e,t.es[i]? =some e->pk i=true->¬Q e.node)->tm U t D Q S->
  Out U t m ((List.range k).flatMap λi=>if pk i then oz (ha t i).path else[]).length (tm U t D λz=>Q z\/∃i e,i<k/\t.es[i]? =some e/\pk i=true/\e.node=z) (runM t ((List.range k).flatMap λi=>if pk i then oz (ha t i).path else[]) m S)
 |0,_,m,_,S,Q,_,h=>by grind [Out.nil, tm.a, absurd]
 | k +1,hk,m,hm,S,Q,v,h=>by
  have G:=sM u pk n k fy hm v h;obtain⟨e,he⟩:∃e,t.es[k]? =some e:=⟨_,j9 fy⟩;rw[tG,ue,DD,ib,hU he];refine G.app λH C=>?_
  cases B:pk k with
  |false=>
   grind [Out.nil, tm.a, id, Nat.lt_or_ge]
  | true=>
   rw[if_pos rfl];refine(PZ u (hm.pZ _) fM (λhq=>?_) C).mono λI w=>⟨w.a,λy F hq=>w.f y F ?_⟩
   .rcases hq with hq|⟨i,x,h1,d,h3,g⟩
    .exact v k e he B hq
    .have g1:=n i x d h3;have g2:=n k e he B;rw[g,g2]at g1;omega
   .rcases hq with hq|⟨i,x,h1,d,h3,g⟩
    .exact .inl (.inl hq)
    .by_cases E:i=k
     .subst E;rw[he]at d;obtain rfl:=jb d;exact .inr g.symm
     .exact .inl (.inr ⟨i,x,fy,d,h3,g⟩)
def IK (u:gM t=true) (I:∀e∈t.es,D e.path=true->(nodeAt t e.node).kind=1) (hlen:U.es.length+t.es.length<=100) (hm:kf m) (h:By U t D 1 1 0 S):Out U t m (pD t D).length (tm U t D λ_=>True) (runM t (pD t D) m S):=by
 have x:=hv u
 have K:1<=t.es.length:=by
  obtain⟨e,he,_⟩:=x.f.g.root;exact fM
 have h1:=Dc u I hlen hm h t.es.length K (gJ _)
 have N:∀{i e},t.es[i]? =some e->(nodeAt t e.node).kind=1->gI t.es e.node=i:=λ{i e} he hk=>by
  obtain⟨_,f2,f3,_⟩:=iL he;have:=x.f.g.dir e fM hk _ fM f3;exact(jQ x.f f2 he (by rw[this])).1
 have H:wT t t.es.length=(List.range t.es.length).flatMap λi=>if(decide ((nodeAt t (ha t i).node).kind≠1)&&decide (gI t.es (ha t i).node=i))then oz (ha t i).path else[]:=by
  unfold wT;refine congrArg (λf=>(List.range t.es.length).flatMap f) (funext λi=>?_);unfold Qd;simp only[iU,decide_eq_true_eq]
 have ed:∀d,tt t d t.es.length=(List.range t.es.length).flatMap λi=>if(decide ((nodeAt t (ha t i).node).kind=1)&&decide ((fX (ha t i).path).length=d))then oz (ha t i).path else[]:=λd=>by
  unfold tt;refine congrArg (λf=>(List.range t.es.length).flatMap f) (funext λi=>?_)
  grind [RX]
 have J:∀d {m:hA},kf m->∀{S:fZ},tm U t D (λz=>∀e∈t.es,e.node=z->(nodeAt t z).kind≠1\/d<(fX e.path).length) S->Out U t m (nH t d).length (tm U t D λ_=>True) (runM t (nH t d) m S):=by
  intro d
  induction d with
  |zero=>
   intro m hm S B;show Out U t m (tt t 0 t.es.length).length _ (runM t (tt t 0 t.es.length) m S)
   rw[ed];refine(sM u _ (λi e he v=>?_) t.es.length (gJ _) hm (λi e he v hq=>?_) B).mono λw n=>⟨n.a,λe he _=>n.f e he ?_⟩
   .grind [hU]
   .grind [hU, List.mem_of_getElem?]
   grind [nodeAt, List.getElem?_of_mem, Nat.pos_of_ne_zero, List.getElem?_eq_some_iff, hU]
  | succ d L=>
   intro m hm S B;rw[nH,ib];refine Out.app (P:=tm U t D (λz=>∀e∈t.es,e.node=z->(nodeAt t z).kind≠1\/d<(fX e.path).length)) ?_ λw n=>L (hm.pZ _) n
   rw[ed];refine(sM u _ (λi e he v=>?_) t.es.length (gJ _) hm (λi e he v hq=>?_) B).mono λw n=>⟨n.a,λe he hq=>n.f e he ?_⟩
   .grind [hU]
   .grind [hU, List.mem_of_getElem?]
   .refine I8 λC=>?_
    rw[not_or]at C;refine C.1 λy G E=>?_
    rcases hq y G E with h|h
    .exact .inl h
    .by_cases hk:(nodeAt t e.node).kind=1
     .obtain⟨i,hi⟩:=tq G;refine .inr (Nat.lt_of_le_of_ne h λh0=>C.2 ⟨i,y,(jR.1 hi).1,hi,?_,E⟩);rw[hU hi];simp only[iU,decide_eq_true_eq];exact⟨by rw[E];exact hk,h0.symm⟩
     .exact .inl hk
 unfold pD;rw[ib,ib];refine Out.app (P:=tm U t D (λz=>(nodeAt t z).kind≠1)) ?_ λw n=>J 8 (hm.pZ _) ⟨n.a,λe he hq=>n.f e he ?_⟩
 .refine h1.app λw n=>?_
  rw[H];refine(sM (Q:=λ_=>False) u _ (λi e he v=>?_) t.es.length (gJ _) (hm.pZ _) (λ_ _ _ _ h=>h) ⟨n,λ_ _ h=>h.elim⟩).mono λM F=>⟨F.a,λe he hk=>F.f e he (.inr ?_)⟩
  .grind [hU]
  .obtain⟨i,hi⟩:=tq he;obtain⟨f1,f2,f3,_⟩:=iL hi
   grind
 ·
  rcases hq e he rfl with h|h
  .exact h
  .have v:=x.f.g.path e he
   have:(fX e.path).length<=8:=by
    by_cases h0:e.path=[]
    .rw[h0];exact iF _
    .simp_all [iy,sJ]
   omega
theorem Hj (u:gM t=true) (h:tm U t D (λ_=>True) S) (E:∀p z,fK U.es p=some z->∃e∈t.es,e.path=p):hQ S=some t:=by
 have C:=hv u
 have L:∀e∈t.es,∃z,fK S.es e.path=some z/\fK S.es (pK t e.node)=some z:=λe he=>by
  obtain⟨j,G⟩:=tq he;obtain⟨z,h1,m,_⟩:=h.a.pr j e G fM
  grind
 have d:∀e∈t.es,fK S.es e.path=some ((fK S.es (pK t e.node)).getD 0):=fM;refine MZ (t:=t) (λk=>(fK S.es (pK t k)).getD 0) (λa v b F K=>?_) ?_ (λe he=>?_) (D2 u)
 .exact h.a.inj a v b F _ (d a v) fM
 .have I:S.es.Nodup:=(zH.1 h.a.g.f.g.nd).imp fM;have J:(t.es.map (Ri λk=>(fK S.es (pK t k)).getD 0)).Nodup:=zH.2 ((zH.1 C.f.g.nd).imp (by grind [Ri]));refine(List.perm_ext_iff_of_nodup I J).2 λx=>⟨λn=>?_,λn=>?_⟩
  .have w:=nk h.a.g.f n
   have:∃e∈t.es,e.path=x.path:=by
    refine I8 λH=>?_
    have h1:=(h.a.ol x.path fM).1;rw[w]at h1;exact H (E _ _ h1.symm)
   obtain⟨e,he,B⟩:=this;refine lp.2 ⟨e,he,?_⟩;have h1:=d e he;rw[B,w]at h1;show(⟨e.path,(fK S.es (pK t e.node)).getD 0⟩:En)=x
   rw[B,<-jb h1]
  .obtain⟨e,he,rfl⟩:=lp.1 n;obtain⟨y,M,h1,m⟩:=gT (d e he)
   have:y=Ri (λk=>(fK S.es (pK t k)).getD 0) e:=by
    show y=(⟨e.path,(fK S.es (pK t e.node)).getD 0⟩:En)
    rw[<-h1,<-m]
   grind
 .obtain⟨h1,m⟩:=(hZ h.a.g.f (d e he)).2;exact⟨h1,m,h.f e he trivial _ (d e he)⟩
end
section
def XM (w:fG x=true) (B:fG y=true) (d:x.kind=1) (f:y.kind=1):Ct x y:=by
 have key:∀x:Nd,fG x=true->x.kind=1->x.size=0/\x.data=[]/\x.target=[]/\x.major=0/\x.minor=0:=by grind [fG, iv, jz, jL]
 obtain⟨g,a2,a3,a4,a5⟩:=key _ w d;obtain⟨m,n,t,u,v⟩:=key _ B f;exact⟨d.trans f.symm,g.trans m.symm,a2.trans n.symm,a3.trans t.symm,a4.trans u.symm,a5.trans v.symm⟩
variable {t:fZ}
theorem w9 (m:gM t=true) (he:t.es[i]? =some e) (hk:(nodeAt t e.node).kind=1):gI t.es e.node=i:=by
 have d:=hv m;obtain⟨_,f2,f3,_⟩:=iL he;have:=d.f.g.dir e fM hk _ fM f3;exact(jQ d.f f2 he (by rw[this])).1
theorem rq (u:gM t=true):∃r,t.es[0]? =some r/\r.path=[]/\(nodeAt t r.node).kind=1:=by
 have d:=(hv u).f;obtain⟨r,x,h1,n⟩:=d.g.root;obtain⟨j,v⟩:=tq x;obtain⟨r0,m⟩:∃r0,t.es[0]? =some r0:=fM
 have h0:r0.path=[]:=by
  refine I8 λw=>?_
  obtain⟨B,_,y,_⟩:=EW d m w;omega
 obtain⟨_,rfl⟩:=jQ d m v (h0.trans h1.symm);exact⟨r0,m,h0,n⟩
def DR (B:gM t=true) (u:kY U) (Z:∀e∈t.es,D e.path=true->(nodeAt t e.node).kind=1/\∃z,fK U.es e.path=some z/\(nodeAt U z).kind=1) (Q:∀e∈t.es,e.path≠[]->D e.path=false->fK U.es e.path=none):By U t D 1 1 0 U:=by
 have m:=hv B;obtain⟨r,w,G,H⟩:=rq B;have R:=jT w;obtain⟨x,T,V,W⟩:=u.f.g.root;have S:fK U.es []=some x.node:=by rw[<-V];exact nk u.f T
 have both:∀(j:Nat) (e:En),t.es[j]? =some e->∀z,fK U.es e.path=some z->(nodeAt U z).kind=1/\(nodeAt t e.node).kind=1:=λj e he z d=>by
  have hm:=jT he
  by_cases h0:e.path=[]
  .obtain⟨_,rfl⟩:=jQ m.f he w (h0.trans G.symm);rw[h0,S]at d;obtain rfl:=jb d;exact⟨W,H⟩
  grind
 have one:∀p q z,fK U.es p=some z->fK U.es q=some z->(nodeAt U z).kind=1->p=q:=λp q z F hq hk=>by
  obtain⟨a,I,Y,a2⟩:=gT F;obtain⟨b,J,E,C⟩:=gT hq;have:=u.f.g.dir a I (by rw[a2];exact hk) b J (C.trans a2.symm)
  grind
 have ab:∀(j:Nat) (e:En),t.es[j]? =some e->(nodeAt t e.node).kind=1->pK t e.node=e.path:=by grind [pK, w9, hU]
 have h1:rr t 1=1:=by
  obtain⟨g1,g2,g3,g4,_⟩:=qf B w;have y:rr t 0=0:=by unfold rr;rw[yb];rfl
  rw[g4,y];rw[y]at g2;rw[if_neg fy]
 refine⟨u,K9 _,λ_=>rfl,λj e he v=>?_,λj e he v K=>?_,λe he e' L z d X=>?_,λp F=>⟨rfl,λz d=>⟨rfl,λe he aa=>?_⟩⟩,λ(j:Nat) (e:En) z he v d=>?_,?_⟩
 .grind
 .refine Q e fM (λh0=>?_) K;have:=(jQ m.f he w (h0.trans G.symm)).1;omega
 .obtain⟨j,v⟩:=tq he;obtain⟨ad,N⟩:=tq L;have:=one _ _ z d X (both j e v z d).1;rw[(jQ m.f v N this).2]
 .grind [List.getElem?_of_mem]
 .obtain⟨E,C⟩:=both j e he z d;exact XM (wb u d) (m.f.g.node e fM) E C
 .have O:=m.f.g.node r R;obtain⟨g1,g2,g3,_,_⟩:=qf B w;have y:rr t 0=0:=by unfold rr;rw[yb];rfl
  rw[y]at g2
  have M:t.ns[0]? =some (nodeAt t r.node):=by
   unfold nodeAt;rw[show r.node.toNat=0 from by omega,kW,j9 fy];rfl
  rw[h1,oZ M,yb,AP (n:=nodeAt t r.node) O (by rw[H];decide)];rfl
def zg (n:Nd):Nat:=if n.kind=2 then n.data.length+(if n.size=rH n.data then 0 else 1)else 0
def tw:ip Nd->Nat
 |[]=>0
 |n::l=>zg n+tw l
theorem Ge:∀(a b:ip Nd),tw (a++b)=tw a+tw b
 |[],b=>by grind [tw]
 |n::a,b=>by rw[rf,tw,tw,Ge a b,GC]
def DQ {l:ip Nd} (h:l[i]? =some n):tw (l.take (i+1))=tw (l.take i)+zg n:=by
 rw[j2,h,Ge];show _+(zg n+0)=_
 rw[kB]
theorem MY (p:fL) (n:Nd):(oV p n).length=zg n:=by
 grind [oV, zg, List.length_append, IW, List.length_map, List.length_range, rH]
theorem CD (h:n.kind=1):zg n=0:=by grind [zg]
theorem D1 (d:gM t=true):∀k,1<=k->k<=t.es.length->(oy t (λ_=>false) k).length=(k-1)+tw (t.ns.take (rr t k))
 |0,h,_=>absurd h fU
 | 1,_,_=>by
  obtain⟨r,n,x,u⟩:=rq d;obtain⟨g1,g2,g3,g4,_⟩:=qf d n;have g:rr t 0=0:=by unfold rr;rw[yb];rfl
  rw[g]at g2
  have f:t.ns[0]? =some (nodeAt t r.node):=by
   unfold nodeAt;rw[show r.node.toNat=0 from by omega,kW,j9 fy];rfl
  rw[g4,g,if_neg fy,DQ f,CD u];rfl
 | k+2,_,hk=>by
  have v:=D1 d (k+1) fy fy;obtain⟨e,he⟩:∃e,t.es[k+1]? =some e:=⟨_,j9 fy⟩;have w:ha t (k+1)=e:=hU he
  have m:oy t (λ_=>false) (k+2)=oy t (λ_=>false) (k+1)++ou t (k+1):=by
   unfold oy;rw[tG,P2 iB,ue,DD];rfl
  obtain⟨g1,g2,g3,g4,g5⟩:=qf d he;rw[m,ib,v,g4]
  by_cases fY:gI t.es e.node<k+1
  .grind [nodeAt, w9, ou]
  .have hu:¬e.node<rr t (k+1):=λh=>fY (g5.1 h)
   have f:t.ns[rr t (k+1)]? =some (nodeAt t e.node):=by
    unfold nodeAt;rw[show e.node.toNat=rr t (k+1)from by omega,kW,j9 fy];rfl
   rw[if_neg hu,DQ f]
   grind [ou, nodeAt, CD, List.length_cons, MY]
def yW (t:fZ) (p:Nat->Bool) (k:Nat):Nat:=((List.range k).filter p).length
theorem wL (t:fZ) (p:Nat->Bool) (k:Nat):yW t p (k+1)=yW t p k+if p k then 1 else 0:=by
 grind [yW, List.range_succ, List.length_append]
theorem tb (t:fZ) (p:Nat->Bool):∀k,((List.range k).flatMap λi=>if p i then oz (ha t i).path else[]).length=5*yW t p k
 |0=>rfl
 |k+1=>by
  rw[tG,ue,DD,ib,tb t p k,wL];cases p k
  .simp
  .simp[oz];omega
theorem Ii (m:gM t=true):(pD t λ_=>false).length=(t.es.length-1)+tw t.ns+5*t.ns.length:=by
 have n:=hv m
 have x:1<=t.es.length:=by
  obtain⟨e,he,_⟩:=n.f.g.root;exact fM
 have w:rr t t.es.length=t.ns.length:=by unfold rr;rw[kh];exact(Ft m).2
 have v:=D1 m t.es.length x (gJ _);rw[w,kh]at v
 have y:wT t t.es.length=(List.range t.es.length).flatMap λi=>if(decide ((nodeAt t (ha t i).node).kind≠1)&&decide (gI t.es (ha t i).node=i))then oz (ha t i).path else[]:=by
  unfold wT;refine congrArg (λf=>(List.range t.es.length).flatMap f) (funext λi=>?_);unfold Qd;simp only[iU,decide_eq_true_eq]
 have ed:∀d,tt t d t.es.length=(List.range t.es.length).flatMap λi=>if(decide ((nodeAt t (ha t i).node).kind=1)&&decide ((fX (ha t i).path).length=d))then oz (ha t i).path else[]:=λd=>by
  unfold tt;refine congrArg (λf=>(List.range t.es.length).flatMap f) (funext λi=>?_)
  grind [RX]
 have D:∀d,(nH t d).length=5*yW t (λi=>decide ((nodeAt t (ha t i).node).kind=1)&&decide ((fX (ha t i).path).length<=d)) t.es.length:=λd=>by
  induction d with
  |zero=>
   grind [nH, tb, decide, nodeAt, ha, fX]
  | succ d u=>
   rw[nH,ib,ed,tb,u,<-Nat.mul_add]
   congr 1
   have:∀k,yW t (λi=>decide ((nodeAt t (ha t i).node).kind=1)&&decide ((fX (ha t i).path).length=d+1)) k+yW t (λi=>decide ((nodeAt t (ha t i).node).kind=1)&&decide ((fX (ha t i).path).length<=d)) k=yW t (λi=>decide ((nodeAt t (ha t i).node).kind=1)&&decide ((fX (ha t i).path).length<=d+1)) k:=by
    intro k
    induction k with
    |zero=>rfl
    |succ k G=>
     grind [wL]
   exact this _
 have C:∀k,k<=t.es.length->yW t (λi=>decide ((nodeAt t (ha t i).node).kind≠1)&&decide (gI t.es (ha t i).node=i)) k+yW t (λi=>decide ((nodeAt t (ha t i).node).kind=1)&&decide ((fX (ha t i).path).length<=8)) k=rr t k:=by
  intro k
  induction k with
  |zero=>intro _;unfold rr;rw[yb];rfl
  | succ k u=>
   intro hk;obtain⟨e,he⟩:∃e,t.es[k]? =some e:=⟨_,j9 fy⟩;have E:ha t k=e:=hU he;obtain⟨g1,g2,g3,g4,g5⟩:=qf m he
   have B:(fX e.path).length<=8:=by
    have F:=n.f.g.path e fM
    by_cases h0:e.path=[]
    .rw[h0];exact iF _
    .simp_all [iy,sJ]
   grind [iL, wL, nodeAt, w9, yW, gI]
 grind [List.length, pD, List.length_append, tb]
end
section
def ny (s:oY):ip i6:=[.I s.kind,.U s.path,.U s.other,.I s.n]
def QV (s:oY):(ny s).length=4:=rfl
def QK (l:ip oY):∀u∈l.flatMap ny,u.oneCell'=true:=λu hu=>by
 obtain⟨s,_,hu⟩:=xk.1 hu;simp only[ny,iu,tf,or_false]at hu;rcases hu with rfl|rfl|rfl|rfl<;>rfl
def L3:x4 78 83 (.agg #[.I 0,.string ⟨#[]⟩,.string ⟨#[]⟩,.I 0]) 4 48:=Nq underlying78 fE
def U1:x4 22 3 (.I 0) 1 8:=Nq underlying22 fE
def ri (e:i9) (B:Nat) (w w':i5):Prop:=Fr (λb=>B<=b/\∃cs,fW w b e cs) w w'
section
variable {e R:i9} {B g:Nat} {a b c w w':i5}
theorem ri.t (h1:ri e B a b) (f:ri e B b c):ri e B a c:=Fr.trans h1 f λj n ⟨g,cs,m⟩=>I8 λd=>d ⟨g,cs,(Fr.block h1 j n d).symm.trans m⟩
def ri.ext (h:Ext a b):ri e B a b:=h.fr
theorem ri.te (h1:ri e B a b) (d:Ext b c):ri e B a c:=Fr.te h1 d
theorem ri.size (h:ri e B a b):a.heap.size<=b.heap.size:=Fr.size h
def ri.gO {cs:Array i6} (h:ri e B w w') (d:fW w g R cs) (m:R≠e):fW w' g R cs:=d.fr h λ⟨_,_,f⟩=>d.Dm f m rfl
def ri.of {α:Type} {f:α->ip i6} {z:Nat} {l:ip α} (hO:Ow f z w B e v l) (g:Fr (λb=>v.ownBlock=some b) w w'):ri e B w w':=g.mono λ_ _ d=>⟨(hO.gO d).1,hO.za d⟩
def ri.tr {ve vn:i6} {fO:ip gG} {t:fZ} (h:ri e B w w') (d:mE w ve vn fO t) (f:∀b,Mx ve vn fO t b->b<B):mE w' ve vn fO t:=d.uZ h fM
theorem ri.cell {p:Addr} {v:i6} (h:ri e B w w') (hc:w.cell? p=some v) (d:p.block<B):w'.cell? p=some v:=Fr.cell h hc fy
end
def Qq (B:Nat) (w:i5) (l:ip oY) (r:i6) (w':i5):Prop:=Ow ny 4 w' B 83 r l/\ri 83 B w w'
section
variable {hs:ip Nat} {full:Array li} {K:Env->i5->Prop} {ii:ip li} {Y:Env} {w:i5} {d1 d2 d3:Tmp} {y1 y2 y3:i9} {p1 p2 p3:String} {a1 a2 a3:Array Edge}
def Cj {parts:ip (Nat×i7)} {vs:ip (Nat×i6)} {x y z:i7} {B:Nat} {l:ip oY} (s:oY) (C:W6 Y parts=some vs) (n:prog.built 83 vs=some (ny s).toArray) (hO:Ow ny 4 w B 83 v l) (I:l.length<=1000000) (G:B<=w.heap.size)
  (D:gh ((d1,.agg (ny s).toArray)::Y) x=some (.agg (ny s).toArray)) (E:gh ((d2,.S w.heap.size 0 1 1)::(d1,.agg (ny s).toArray)::Y) y=some v) (F:gh ((d2,.S w.heap.size 0 1 1)::(d1,.agg (ny s).toArray)::Y) z=some (.S w.heap.size 0 1 1))
  (h:∀d w',Ow ny 4 w' B 83 d (l++[s])->ri 83 B w w'->xs prog fD fC hs gS full K ii ((d3,d)::(d2,.S w.heap.size 0 1 1)::(d1,.agg (ny s).toArray)::Y) w'):
  xs prog fD fC hs gS full K (⟨some d1,.build 83 parts.toArray,y1,p1,a1,none⟩::⟨some d2,.buildSlice 78 1 #[(0,x)],y2,p2,a2,none⟩::⟨some d3,.call {callee:= .builtin .append,args:=⟨[y,z]⟩,argTypes:=⟨[78,78]⟩},y3,p3,a3,none⟩::ii) Y w:=by
 refine oQ C n ?_;refine nV L3 D fx fU fU (λM g f J=>?_);refine jH (news:=ny s) L3 fx fU E (gK.ext hO f) F (gQ g fU fx) fx (λu hu=>QK [s] u (by simpa using hu)) (by grind [maxLen]) fy fy (λd w' H m L=>?_);exact h d w' (by grind [Ow.ext1, ny]) (ri.t (ri.ext f) (ri.of (hO.ext f) m))
end
def JN:Array i6:= #[.I 6,.I 7,.I 8,.I 9,.I 10]
def I4 (h:i<5):JN[i]? =some (.I (6+(i:Int))):=by
 have:i=0\/i=1\/i=2\/i=3\/i=4:=fy;rcases this with rfl|rfl|rfl|rfl|rfl<;>rfl
theorem Ov (p:fL) (h:i<5):(oz p).take (i+1)=(oz p).take i++[⟨6+(i:Int),p,[],0⟩]:=by
 have:i=0\/i=1\/i=2\/i=3\/i=4:=fy;rcases this with rfl|rfl|rfl|rfl|rfl<;>rfl
attribute [local irreducible] xs T
def A5 (w:i5) (B:Nat) (v:i6) (l:ip oY) (p:fL) (hO:Ow ny 4 w B 83 v l) (F:B<=w.heap.size) (I:l.length<=900000):fQ prog 114 #[v,.U p] w (Qq B w (l++oz p)):=by
 refine gP func114 fx fE ?_;refine fA ?_;refine iq (α:=Nat×i6) 0 fx (λx=>[(0,x.2),(1,.U p),(5,.P w.heap.size),(6,.I (x.1:Int))]) (λx w'=>x.1<=5/\Qq B w (l++(oz p).take x.1) x.2 w'/\fW w' w.heap.size 233 JN) (λx=>5-x.1) ?_ ?_
 .rintro⟨i,v1⟩ y ⟨hi,⟨g,f⟩,u⟩;dsimp only at hi g|-;have K:=f.size
  by_cases fY:i<5
  .have q0:y.cell? ⟨w.heap.size,0+i,none⟩=some (.I (6+(i:Int))):=by rw[u.cell,iM];exact I4 fY
   have hlen:(l++(oz p).take i).length<=1000000:=by
    have:((oz p).take i).length<=5:=fM;rw[ib];omega
   refine goX ?_;refine Cj ⟨6+(i:Int),p,[],0⟩ (vs:=[(0,.I (6+(i:Int))),(1,.U p)]) fx fE g hlen fy fx fx fx (λv2 m G d=>?_);refine fA ?_;exact hy fx ⟨_,fM,rfl,(i+1,v2),sub ⟨rfl,rfl,rfl,rfl⟩,⟨fY,⟨by grind [Ov, List.append_assoc],f.t d⟩,d.gO u fU⟩,rfl⟩
  .obtain rfl:i=5:=fy;refine fA ?_;exact fB fx fx ⟨g,f⟩
 .intro H;refine fA ?_;refine oQ (cells:=JN) fx fE ?_;refine fA ?_;refine gx (z:= .agg #[.I 0,.I 0,.I 0,.I 0,.I 0]) fE (λy C E J=>?_);refine gY C fx fx fE fx fE (λm D d=>?_);have n:Ext w m:=E.trans d fM;refine fA ?_;refine hI ?_;exact iw (H (0,v) m ⟨iF 5,⟨by simpa using hO.ext n,ri.ext n⟩,D⟩) (sub ⟨rfl,rfl,rfl,rfl⟩)
def OI (es:ip En) (i k:Nat):Nat:=if(es.drop i).any (λe=>decide (e.node=(k:Int)))then i+(es.drop i).findIdx (λe=>decide (e.node=(k:Int)))else 0
def tO (t:fZ) (i:Nat):Array i6:=((List.range t.ns.length).map λk=>Value.I ((OI t.es i k:Nat):Int)).toArray
theorem NI {es:ip En} (h:es.drop i=e::es.drop (i+1)) (k:Nat):OI es i k=if e.node=(k:Int)then i else OI es (i+1) k:=by
 grind [OI, decide_false]
theorem PV (t:fZ):tO t t.es.length=Array.replicate t.ns.length (.I 0):=by
 grind [tO, OI, List.drop_length, List.map_const']
theorem N7 (t:fZ) (i:Nat):(tO t i).size=t.ns.length:=by unfold tO;simp
theorem NV {t:fZ} {k:Nat} (h:t.es.drop i=e::t.es.drop (i+1)) (hk:e.node=(k:Int)):(tO t (i+1)).setIfInBounds k (.I (i:Int))=tO t i:=by
 refine Array.ext (by simp[tO]) λj h1 d=>?_
 grind [tO, NI]
theorem Gn {t:fZ} {k:Nat} (h:t.es[j]? =some e) (hk:e.node=(k:Int)) (fY:k<t.ns.length):(tO t 0)[k]? =some (.I ((gI t.es e.node:Nat):Int)):=by
 unfold tO OI gI;have hm:=jT h;have d:t.es.any (λx=>decide (x.node=(k:Int)))=true:=fM
 simp_all
def FP (w:i5) (ve vn:i6) (fO:ip gG) (t:fZ) (x:mE w ve vn fO t) (L:∀e∈t.es,0<=e.node/\e.node<t.ns.length) (U:t.es.length<=1000000) (V:t.ns.length<=1000000):fQ prog 65 #[.agg #[ve,vn]] w λr w'=>∃g,r= .S g 0 t.ns.length t.ns.length/\fW w' g 3 (tO t 0)/\w.heap.size<=g/\Ext w w':=by
 refine gD func65 fx fE ?_;have hlen:=x.len;obtain⟨A,c,rfl,O,R,F⟩:=x.e.op gi;obtain⟨y,B,rfl,Q,S,_⟩:=x.n.op gw;refine fA ?_;refine hP fx (λf G v W=>?_);have u:fW f w.heap.size 26 #[.slice A t.es.length c,.slice y fO.length B]:=G;refine fA ?_;refine iq (α:=Nat) 0 fx (λi=>[(1,.P w.heap.size),(3,.S f.heap.size 0 t.ns.length t.ns.length),(4,.I (i:Int))]) (λi w'=>i<=t.es.length/\Ext f w'/\fW w' f.heap.size 3 (tO t i)) (λi=>i) ?_ ?_
 .rintro i m ⟨hi,d,C⟩;have m0:gc m w.heap.size 0 (.slice A t.es.length c):=(u.ext d).cell 0;rcases yc i with rfl|h0
  .refine fA ?_;exact fB fx fx ⟨_,rfl,C,v.size,v.t d⟩
  .obtain⟨i,rfl⟩:∃j,i=j+1:=⟨i-1,fy⟩;obtain⟨b,o,e,rfl,_,he,T,K⟩:=F.at_ (show i<t.es.length from hi);obtain⟨h1,M⟩:=L e fM;obtain⟨k,hk⟩:=lZ h1;have q1:m.cell? ⟨b,o+i*2+1,none⟩=some (.I (k:Int)):=by rw[<-hk];exact d.cell (v.cell (K 1 _ rfl))
   have D:((i+1:Nat):Int)-1=(i:Int):=fy
   repeat' (first|refine gH i (o+i*2) fx fx fx D fx hi ?_|refine gH k k fx fx fx fx fy fy ?_|refine fT ?_|fail)
   refine ir C fx fx fE fx (by grind [N7, decide_eq_true]) (λY N J=>?_);refine fA ?_;exact hy fx ⟨_,zb i,rfl,i,sub ⟨rfl,rfl,km fy⟩,⟨Qy hi,d.trans J fM,by grind [NV]⟩,rfl⟩
 .intro H;have m1:gc f w.heap.size 1 (.slice y fO.length B):=u.cell 1;refine fA ?_;refine WA (n:=((fO.length:Nat):Int)) U1 fx fx fx fy fy fy (λm I d X=>?_) (λ_ _=>True.intro);have E:((fO.length:Nat):Int).toNat=t.ns.length:=fy;rw[E]at I|-;have m0:gc m w.heap.size 0 (.slice A t.es.length c):=(u.ext d).cell 0;refine fA ?_;refine hI ?_;exact iw (H t.es.length m (by grind [PV])) (sub ⟨rfl,rfl,rfl⟩)
def Kh (w:i5) (p:fL) (h:gX p=true):fQ prog 115 #[.U p] w λr w'=>r= .I ((fX p).length:Int)/\Ext w w':=by
 refine gD func115 fx fE ?_;refine fA ?_;refine fI fx fx (oC w p) ?_;rintro r m ⟨rfl,d⟩;rw[h];refine fA ?_;refine fI fx fx (AX m p) ?_;rintro r n ⟨g,f⟩;obtain⟨A,c,rfl,_,_⟩:=g.form;refine fA ?_;exact fB fx fx ⟨rfl,d.t f⟩
