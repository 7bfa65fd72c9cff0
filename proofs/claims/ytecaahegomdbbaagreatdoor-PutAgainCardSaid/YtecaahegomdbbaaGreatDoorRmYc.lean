/- Parts of the proof. -/
import Derived.Test.YtecaahegomdbbaaGreatDoorRmYa
set_option linter.all false
set_option maxRecDepth 99999
set_option maxHeartbeats 0
namespace Go.Proofs.YtecaahegomdbbaaGreatDoor.gr
open Go.Proofs.Tryz
open Go.RowKit
variable {w:i5}
section
attribute [local irreducible] xs T
theorem rp:∀(r:ip hT) (c:hT),fF (l5 c r)=c.data.length+fF r
 |[],c=>by simp[l5,fF]
 |p::r,c=>by
  rw[l5];split
  .rw[rp r,ib,fF];omega
  .rw[fF,rp r,fF]
def E2 (l:ip hT):fF (jG l)=fF l:=by
 cases l with
 |nil=>rfl
 |cons p r=>rw[jG,rp,fF]
def ku {x:gG} (f:im w x):(gB x).all (·.oneCell')=true:=by
 obtain⟨t,c1,g,_⟩:=f.a;obtain⟨u,c2,m,_⟩:=f.c;obtain⟨v,c3,n,_⟩:=f.d;unfold gB;rw[g,m,n];rfl
def u5 {n:Nd} (h:jV n=true):Oh n.data/\fF n.data<=4000/\0<=n.size/\n.size<=1099511627776/\n.data.length<=16:=by
 obtain⟨f1,f2,f3,f4,f5,f6⟩:=(kH n).1 h
 have g:∀l:ip hT,∀p∈l,p.data.length<=fF l:=by
  intro l
  induction l with
  |nil=>intro p d;cases d
  |cons q l m=>
   intro p d;rw[fF];rcases iu.1 d with rfl|d
   .omega
   .have:=m p d;omega
 refine⟨⟨fy,λp d=>?_⟩,f4,f1,f2,f3⟩;obtain⟨_,h1,f⟩:=f6 p d;have:=g _ p d;unfold gU at f;exact⟨h1,fy,by omega⟩
def Mu {l:ip hT} {lo hi:Int} (h:Oh l) (g:0<=lo/\lo<=4398046511104):Oh (gZ l lo hi):=by
 refine⟨ly (qa _ _ _) h.1,λq hq=>?_⟩;obtain⟨p,d,hc⟩:=W4.1 hq;have f:=h.2 p d;have h1:=oI hc;refine⟨fy,by omega,?_⟩;unfold nf at hc;split at hc
 .injection hc with hc
  subst hc;rw[kv,lY];omega
 .cases hc
structure N2 (w:World) (x:gG):Prop where
 a:∀b,x.va.ownBlock=some b->∃cs,fW w b 68 cs
 c:∀b,x.vc.ownBlock=some b->∃cs,fW w b 70 cs
 d:∀b,x.vd.ownBlock=some b->∃cs,fW w b 39 cs
def N2.ext {w w':i5} {x:gG} (h:N2 w x) (g:Ext w w'):N2 w' x:=
 ⟨λb f=>by obtain⟨cs,hc⟩:=h.a b f;exact⟨cs,hc.ext g⟩,λb f=>by obtain⟨cs,hc⟩:=h.c b f;exact⟨cs,hc.ext g⟩,λb f=>by obtain⟨cs,hc⟩:=h.d b f;exact⟨cs,hc.ext g⟩⟩
def rh (w:i5) (S:Nat->Prop):Prop:=∀b,S b->∃t cs,fW w b t cs/\t≠68/\t≠70/\t≠39
def rh.one {g t:Nat} {cs:Array i6} (h:fW w g t cs) (h1:t≠68/\t≠70/\t≠39):rh w (· =g):=λ_ d=>⟨t,cs,d▸h,h1⟩
def rh.own {α:Type} {d:α->ip i6} {z B t:Nat} {v:i6} {l:ip α} (h:Ow d z w B t v l) (h1:t≠68/\t≠70/\t≠39):rh w (λb=>v.ownBlock=some b):=λb f=>by
 obtain⟨cs,hc⟩:=h.za f;exact⟨t,cs,hc,h1⟩
structure Nj (w:World) (x:gG):Prop where
 i:im w x
 t:N2 w x
def Nj.ext {w w':i5} {x:gG} (h:Nj w x) (d:Ext w w'):Nj w' x:=⟨h.i.ext d,h.t.ext d⟩
def Nj.fr {S:Nat->Prop} {w w':i5} {x:gG} (h:Nj w x) (g:Fr S w w') (n:rh w S):Nj w' x:=by
 have key:∀b t cs,fW w b t cs->(t=68\/t=70\/t=39)->¬S b:=λb t _ f ht u=>by
  obtain⟨t',y,v,h1,m,h3⟩:=n b u
  have:t=t':=by
   by_cases e:t=t'
   .exact e
   .exact absurd fx (f.Dm v e)
  subst this;rcases ht with ht|ht|ht
  .exact h1 ht
  .exact m ht
  .exact h3 ht
 refine⟨⟨h.i.a.fr g λb f=>?_,h.i.c.fr g λb f=>?_,h.i.d.fr g λb f=>?_⟩,⟨λb f=>?_,λb f=>?_,λb f=>?_⟩⟩
 .obtain⟨cs,hc⟩:=h.t.a b f;exact key b _ cs hc (.inl rfl)
 .obtain⟨cs,hc⟩:=h.t.c b f;exact key b _ cs hc (.inr (.inl rfl))
 .obtain⟨cs,hc⟩:=h.t.d b f;exact key b _ cs hc (.inr (.inr rfl))
 .obtain⟨cs,hc⟩:=h.t.a b f;exact⟨cs,hc.fr g (key b _ cs hc (.inl rfl))⟩
 .obtain⟨cs,hc⟩:=h.t.c b f;exact⟨cs,hc.fr g (key b _ cs hc (.inr (.inl rfl)))⟩
 .obtain⟨cs,hc⟩:=h.t.d b f;exact⟨cs,hc.fr g (key b _ cs hc (.inr (.inr rfl)))⟩
def NdR (w:i5) (x:gG) (n:Nd) (e:Int) (r:i6) (w':i5):Prop:=∃x',r= .tuple #[.agg (gB x').toArray,.I e]/\im w' x'/\x'.n=n/\Ext w w'/\(N2 w x->N2 w' x')
def JJ (w:i5) (x:gG) (size:Int) (u:im w x) (y:fF x.n.data<=1000000) (ar:x.n.target.length<=1000000):fQ prog 27 #[.agg (gB x).toArray,.I size] w (NdR w x (kx x.n size).1 (kx x.n size).2):=by
 refine gP func27 fx fE ?_;have G:∀{a b c:i5} {g:Nat},Ext a b->Fr (· =g) b c->a.heap.size<=g->Ext a c:=λh1 ae aw=>h1.trans ae λj aq e=>absurd aq fy
 refine fA ?_;refine hP fx (λB ag Y ax=>?_);have C:fW B w.heap.size 37 (gB x).toArray:=ag;refine fA ?_;refine gx (z:= .agg tH) fE (λad ah M ay=>?_);have J:fW ad B.heap.size 37 tH:=ah;refine fA ?_;refine gR (t:=37) (C.ext M) fx fx ?_;refine fA ?_;refine fH fx fx (na ad x (u.ext (Y.t M)) y ar) (λr F h3=>?_);obtain⟨rfl,D⟩:=h3;have v:Ext B F:=M.t D;have H:Ext w F:=Y.t v;have k0:gc F w.heap.size 0 (.I x.n.kind):=(C.ext v).cell 0
 have bad:(fG x.n=false\/x.n.kind≠2\/size<0\/1099511627776<size)->∀f,fW f B.heap.size 37 (gB x).toArray->Fr (· =B.heap.size) F f->NdR w x (kx x.n size).1 (kx x.n size).2 (.tuple #[.agg (gB x).toArray,.I 1]) f:=λh f _ R=>by
  have e:kx x.n size=(x.n,1):=if_pos h;rw[e];exact⟨x,rfl,u.ext (G H R fy),rfl,G H R fy,λh=>h.ext (G H R fy)⟩
 cases V:fG x.n with
 |false=>
  refine fA ?_;refine gR (t:=37) (C.ext v) fx fx ?_;refine fA ?_;refine gY (J.ext D) fx fx fE fx (fJ (ku u)) (λf m E=>?_);refine fA ?_;exact hL fx fx fx m fE (bad (.inl V) f m E)
 |true=>
 by_cases g1:x.n.kind≠2
 .refine fA ?_;refine gR (t:=37) (C.ext v) fx fx ?_;refine fA ?_;refine gY (J.ext D) fx fx fE fx (fJ (ku u)) (λf m E=>?_);refine fA ?_;exact hL fx fx fx m fE (bad (.inr (.inl g1)) f m E)
 by_cases g2:size<0
 .refine fA ?_;refine gR (t:=37) (C.ext v) fx fx ?_;refine fA ?_;refine gY (J.ext D) fx fx fE fx (fJ (ku u)) (λf m E=>?_);refine fA ?_;exact hL fx fx fx m fE (bad (.inr (.inr (.inl g2))) f m E)
 by_cases g3:1099511627776<size
 .refine fA ?_;refine gR (t:=37) (C.ext v) fx fx ?_;refine fA ?_;refine gY (J.ext D) fx fx fE fx (fJ (ku u)) (λf m E=>?_);refine fA ?_;exact hL fx fx fx m fE (bad (.inr (.inr (.inr g3))) f m E)
 have ao:kx x.n size=({x.n with data:=gZ x.n.data 0 size,size:=size},0):=if_neg (by rw[V];simp only[Wp,false_or];omega);rw[ao];obtain⟨f1,f2,f3,f4,f5⟩:=u5 (iX V fy);obtain⟨A,c,X,au,av,_⟩:=u.d.op hB;have k8:gc F w.heap.size 8 x.vd:=(C.ext v).cell 8;rw[X]at k8;have ab:=u.d;rw[X]at ab;refine fA ?_;refine fH fx fx (qx F _ x.n.data 0 size (ab.ext H) f1 fy) (λr f af=>?_);obtain⟨N,Q⟩:=af;obtain⟨W,c4,rfl,_,_⟩:=N.form;have m:fW f w.heap.size 37 (gB x).toArray:=(C.ext v).ext Q;refine fA ?_;refine ir m fx fx fE fx fx (λaA ai S=>?_);refine fA ?_;refine ir ai fx fx fE fx fx (λL aj T=>?_);obtain⟨x',K⟩:∃x':gG,x'=⟨{x.n with data:=gZ x.n.data 0 size,size:=size},x.va,x.vc,.slice W (gZ x.n.data 0 size).length c4⟩:=⟨_,rfl⟩;have ak:fW L w.heap.size 37 (gB x').toArray:=by rw[K];exact aj
 have am:Ext w f:=H.t Q;have O:Ext w L:=G (G am S (gJ _)) T (gJ _);have az:=v.size;have U:Ow kc 2 L F.heap.size 39 (.slice W (gZ x.n.data 0 size).length c4) (gZ x.n.data 0 size):=(N.fr S (λb y=>by have:=(N.gO y).1;show ¬b=w.heap.size;omega)).fr T (λb y=>by have:=(N.gO y).1;show ¬b=w.heap.size;omega);have ap:im L x':=by rw[K];exact⟨u.a.ext O,u.c.ext O,U.rw⟩
 have an:fW L B.heap.size 37 tH:=((J.ext (D.t Q)).fr S (show ¬B.heap.size=w.heap.size by omega)).fr T (show ¬B.heap.size=w.heap.size by omega);refine fA ?_;refine gR (t:=37) ak fx fx ?_;refine fA ?_;refine gY an fx fx fE fx (fJ (ku ap)) (λaB al Z=>?_);refine fA ?_;have I:=G O Z fy;refine hL fx fx fx al fE ⟨x',rfl,?_,by rw[K],I,λht=>?_⟩
 all_goals have aa:=U.fr Z (λb y=>by have:=(U.gO y).1;have:=M.size;have:=D.size;show ¬b=B.heap.size;omega)
 .rw[K];exact⟨u.a.ext I,u.c.ext I,aa.rw⟩
 .rw[K];exact⟨(ht.ext I).a,(ht.ext I).c,λb y=>aa.za y⟩
def xO (w:i5) (x:gG) (at_:Int) (s:fL) (f:im w x) (E:fF x.n.data<=1000000) (bd:x.n.target.length<=1000000) (bE:s.length<=100000):fQ prog 26 #[.agg (gB x).toArray,.I at_,.U s] w (NdR w x (gy x.n at_ s).1 (gy x.n at_ s).2):=by
 refine kg func26 fx fE ?_;have D:∀{a b c:i5} {g:Nat},Ext a b->Fr (· =g) b c->a.heap.size<=g->Ext a c:=λh1 aR br=>h1.trans aR λj ar e=>absurd ar fy
 refine fA ?_;refine hP fx (λQ aU aA bs=>?_);have F:fW Q w.heap.size 37 (gB x).toArray:=aU;refine fA ?_;refine gx (z:= .agg tH) fE (λaP aZ ah bu=>?_);have O:fW aP Q.heap.size 37 tH:=aZ;refine fA ?_;refine gR (t:=37) (F.ext ah) fx fx ?_;refine fA ?_;refine fH fx fx (na aP x (f.ext (aA.t ah)) E bd) (λr y h3=>?_);obtain⟨rfl,J⟩:=h3;have C:Ext Q y:=ah.t J;have S:Ext w y:=aA.t C;have k0:gc y w.heap.size 0 (.I x.n.kind):=(F.ext C).cell 0
 have bad:∀e,gy x.n at_ s=(x.n,e)->∀v,fW v Q.heap.size 37 (gB x).toArray->Fr (· =Q.heap.size) y v->NdR w x (gy x.n at_ s).1 (gy x.n at_ s).2 (.tuple #[.agg (gB x).toArray,.I e]) v:=λe h v _ N=>by
  rw[h];exact⟨x,rfl,f.ext (D S N fy),rfl,D S N fy,λh=>h.ext (D S N fy)⟩
 have Y:(fG x.n=false\/x.n.kind≠2\/at_<0\/1099511627776<at_)->gy x.n at_ s=(x.n,1):=λh=>if_pos h
 cases ab:fG x.n with
 |false=>
  refine fA ?_;refine gR (t:=37) (F.ext C) fx fx ?_;refine fA ?_;refine gY (O.ext J) fx fx fE fx (fJ (ku f)) (λv m G=>?_);refine fA ?_;exact hL fx fx fx m fE (bad 1 (Y (.inl ab)) v m G)
 |true=>
 by_cases g1:x.n.kind≠2
 .refine fA ?_;refine gR (t:=37) (F.ext C) fx fx ?_;refine fA ?_;refine gY (O.ext J) fx fx fE fx (fJ (ku f)) (λv m G=>?_);refine fA ?_;exact hL fx fx fx m fE (bad 1 (Y (.inr (.inl g1))) v m G)
 by_cases g2:at_<0
 .refine fA ?_;refine gR (t:=37) (F.ext C) fx fx ?_;refine fA ?_;refine gY (O.ext J) fx fx fE fx (fJ (ku f)) (λv m G=>?_);refine fA ?_;exact hL fx fx fx m fE (bad 1 (Y (.inr (.inr (.inl g2)))) v m G)
 by_cases g3:1099511627776<at_
 .refine fA ?_;refine gR (t:=37) (F.ext C) fx fx ?_;refine fA ?_;refine gY (O.ext J) fx fx fE fx (fJ (ku f)) (λv m G=>?_);refine fA ?_;exact hL fx fx fx m fE (bad 1 (Y (.inr (.inr (.inr g3)))) v m G)
 have aa:¬(fG x.n=false\/x.n.kind≠2\/at_<0\/1099511627776<at_):=by rw[ab];simp only[Wp,false_or];omega
 by_cases g4:1099511627776-at_<(s.length:Int)
 .refine Uk ?_;refine gR (t:=37) (F.ext C) fx fx ?_;refine fA ?_;refine gY (O.ext J) fx fx fE fx (fJ (ku f)) (λv m G=>?_);refine fA ?_;exact hL fx fx fx m fE (bad 2 ((if_neg aa).trans (if_pos g4)) v m G)
 by_cases g5:s=[]
 .repeat' (first|refine iE fx fx ?_|refine gk (op:= .eql) (b:=[]) (r:=true) fx fx (by simp[hG,g5]) ?_|refine fT ?_|fail)
  refine gR (t:=37) (F.ext C) fx fx ?_;refine fA ?_;refine gY (O.ext J) fx fx fE fx (fJ (ku f)) (λv m G=>?_);refine fA ?_;exact hL fx fx fx m fE (bad 0 ((if_neg aa).trans ((if_neg g4).trans (if_pos g5))) v m G)
 obtain⟨f1,f2,f3,f4,f5⟩:=u5 (iX ab fy);have hw:=FA (iX ab fy) (show 0<=at_ by omega) g5 fy;obtain⟨A,c,ax,bl,bo,_⟩:=f.d.op hB;have k8:gc y w.heap.size 8 x.vd:=(F.ext C).cell 8;rw[ax]at k8;have av:=f.d;rw[ax]at av;have bm:=lL x.n.data 0 at_;have bn:=qa x.n.data 0 at_;have bp:=lL x.n.data (at_+(s.length:Int)) 1099511627777;have bq:=qa x.n.data (at_+(s.length:Int)) 1099511627777
 repeat' (first|refine iE fx fx ?_|refine gk (op:= .eql) (b:=[]) (r:=false) fx fx (by simp[hG,g5]) ?_|refine fT ?_|fail)
 refine fH fx fx (qx y _ x.n.data 0 at_ (av.ext S) f1 fy) (λr v aS=>?_);obtain⟨an,aF⟩:=aS;obtain⟨bh,c4,rfl,_,_⟩:=an.form;have bv:=C.size;have bw:=aF.size;obtain⟨q,hq⟩:∃q:hT,q=⟨at_,s⟩:=⟨_,rfl⟩;refine fA ?_;refine oQ (parts:=[(0,.tmp 48),(1,.tmp 49)]) (cells:=(kc q).toArray) (vs:=[(0,.I q.pos),(1,.U q.data)]) (by rw[hq];rfl) fE ?_;refine nV ks fx fx fU fU (λbJ a0 aj bx=>?_);have bz:=aj.size;refine jH (B:=y.heap.size) (news:=kc q) ks fx fU fx (an.ext aj) fx (gQ a0 fU fx) fx (λu hu=>mh [_] u (by simpa using hu)) (by unfold maxLen;omega) fy fy (λv6 ae a4 a2 _=>?_);have ao:Ow kc 2 ae y.heap.size 39 v6 (gZ x.n.data 0 at_++[q]):=Ow.ext1 (l':=[q]) (by simpa using a4);obtain⟨bi,c6,rfl,_,_⟩:=ao.form;have Z:Ext y ae:=(aF.t aj).trans a2 λj ar h=>by have:=(an.gO h).1;omega
 have bA:=Z.size;have bb:(gZ x.n.data 0 at_++[q]).length=(gZ x.n.data 0 at_).length+1:=by simp
 have bH:gc ae w.heap.size 8 (.slice A x.n.data.length c):=Z.cell k8;refine fA ?_;refine fH fx fx (qx ae _ x.n.data (at_+(s.length:Int)) 1099511627777 (av.ext (S.t Z)) f1 fy) (λr bK aT=>?_);obtain⟨aK,ak⟩:=aT;obtain⟨bj,c7,rfl,_,_⟩:=aK.form;have bB:=ak.size;refine jH (B:=y.heap.size) (news:=(gZ x.n.data (at_+(s.length:Int)) 1099511627777).flatMap kc) ks fx fU fx (ao.ext ak) fx aK.rw (gn hB _) (mh _) (by unfold maxLen;omega) fy fy (λbf W a5 a3 _=>?_);have aL:Ow kc 2 W y.heap.size 39 bf (gZ x.n.data 0 at_++[q]++gZ x.n.data (at_+(s.length:Int)) 1099511627777):=Ow.ext1 a5;obtain⟨bk,c8,rfl,_,_⟩:=aL.form;have aD:Ext y W:=(Z.t ak).trans a3 λj ar h=>by have:=(ao.gO h).1;omega
 have bC:=aD.size;have aN:jG (gZ x.n.data 0 at_++[q]++gZ x.n.data (at_+(s.length:Int)) 1099511627777)=qZ x.n.data at_ s:=by rw[hq];rfl
 have a8:fF (gZ x.n.data 0 at_++[q]++gZ x.n.data (at_+(s.length:Int)) 1099511627777)<=200000:=by
  rw[iK,iK,hq];simp only[fF];omega
 have bc:Oh (gZ x.n.data 0 at_++[q]++gZ x.n.data (at_+(s.length:Int)) 1099511627777):=by
  refine⟨by rw[ib,bb];omega,λp K=>?_⟩;rcases iS.1 K with K|K
  .rcases iS.1 K with K|K
   .exact(Mu f1 fy).2 p K
   .rw[jS.1 K,hq];exact⟨by dsimp only;omega,by dsimp only;omega,by dsimp only;omega⟩
  .exact(Mu f1 fy).2 p K
 refine fA ?_;refine fH fx fx (Et W _ _ aL.rw bc fy) (λr I ay=>?_);rw[aN]at ay;obtain⟨ap,aG⟩:=ay;obtain⟨X,c9,rfl,_,_⟩:=ap.form;have aE:Ext y I:=aD.t aG;have bD:=aG.size;have bF:fF (qZ x.n.data at_ s)<=200000:=by rw[<-aN,E2];exact a8
 refine fA ?_;refine gR (t:=37) ((F.ext C).ext aE) fx fx ?_;refine fA ?_;refine gx (z:= .agg tH) fE (λbI aV aB bt=>?_);refine gY aV fx fx fE fx (fJ (ku f)) (λaw aW aH=>?_);have aC:Ext y aw:=D (aE.t aB) aH fy;have k7:gc aw.drew w.heap.size 7 (.I x.n.size):=((F.ext C).ext aC).cell 7;refine KJ ?_;refine lk [63] (λw'=>gc w' w.heap.size 7 (.I x.n.size)) fE (by decide+kernel) k7 ?_
 repeat' (first|refine pG fx fx (λ_ h=>h) ?_|refine HV ?_|fail)
 refine ir (w:=aw.drew) aW fx fx fE fx fx (λbg aX al=>?_) (λw' N=>N.cell k7 (show ¬w.heap.size=I.heap.size by omega));refine KJ ?_;have be:gc bg w.heap.size 7 (.I x.n.size):=al.cell k7 (show ¬w.heap.size=I.heap.size by omega);refine ir aX fx fx fE fx fx (λR aY aI=>?_) (λw' N=>N.cell be (show ¬w.heap.size=I.heap.size by omega));obtain⟨x',L⟩:∃x':gG,x'=⟨{x.n with data:=qZ x.n.data at_ s,size:=max x.n.size (at_+(s.length:Int))},x.va,x.vc,.slice X (qZ x.n.data at_ s).length c9⟩:=⟨_,rfl⟩;have af:fW R I.heap.size 37 (gB x').toArray:=by rw[L];exact aY
 have ai:Ext y R:=D (D aC.ed al fy) aI fy;have ag:Ext w R:=S.t ai;have au:∀b,(Value.slice X (qZ x.n.data at_ s).length c9).ownBlock=some b->W.heap.size<=b/\b<I.heap.size:=λb E=>ap.gO E
 have am:Ow kc 2 R W.heap.size 39 (.slice X (qZ x.n.data at_ s).length c9) (qZ x.n.data at_ s):=
  (((((ap.ext aB).fr aH (λb E=>by have:=au b E;show ¬b=I.heap.size;omega)).ext (Fr.drew _ _)).fr al (λb E=>by have:=au b E;show ¬b=I.heap.size;omega)).fr aI (λb E=>by have:=au b E;show ¬b=I.heap.size;omega))
 have aM:im R x':=by rw[L];exact⟨f.a.ext ag,f.c.ext ag,am.rw⟩
 have a7:fF x'.n.data<=1000000:=by rw[L];dsimp only;omega
 have a6:fW R Q.heap.size 37 tH:=(O.ext J).ext ai;refine fA ?_;refine gR (t:=37) af fx fx ?_;refine fA ?_;refine fH fx fx (xl R x' aM a7) (λr ad aQ=>?_);obtain⟨rfl,T⟩:=aQ;have a9:x'.n.data=qZ x.n.data at_ s:=by rw[L]
 rw[a9]
 have bG:ad.cell? ⟨I.heap.size,8,none⟩=some (.slice X (qZ x.n.data at_ s).length c9):=by
  have:=(af.ext T).cell 8;rw[this,L];rfl
 have M:Ext w ad:=ag.t T;have a1:Ext y ad:=ai.t T;have az:fW ad w.heap.size 37 (gB x).toArray:=(F.ext C).ext a1;have aq:=a6.ext T;have lim:(4000<fF (qZ x.n.data at_ s)\/16<(qZ x.n.data at_ s).length)->gy x.n at_ s=(x.n,13):=λh=>(if_neg aa).trans ((if_neg g4).trans ((if_neg g5).trans (if_pos h)))
 by_cases g6:4000<fF (qZ x.n.data at_ s)
 .refine fA ?_;refine gR (t:=37) az fx fx ?_;refine fA ?_;refine gY aq fx fx fE fx (fJ (ku f)) (λaO U H=>?_);refine fA ?_;refine hL fx fx fx U fE ?_;rw[lim (.inl g6)];exact⟨x,rfl,f.ext (D M H fy),rfl,D M H fy,λh=>h.ext (D M H fy)⟩
 by_cases g7:16<(qZ x.n.data at_ s).length
 .refine fA ?_;refine gR (t:=37) az fx fx ?_;refine fA ?_;refine gY aq fx fx fE fx (fJ (ku f)) (λaO U H=>?_);refine fA ?_;refine hL fx fx fx U fE ?_;rw[lim (.inr g7)];exact⟨x,rfl,f.ext (D M H fy),rfl,D M H fy,λh=>h.ext (D M H fy)⟩
 have ba:gy x.n at_ s=({x.n with data:=qZ x.n.data at_ s,size:=max x.n.size (at_+(s.length:Int))},0):=(if_neg aa).trans ((if_neg g4).trans ((if_neg g5).trans (if_neg fy)));refine fA ?_;refine gR (t:=37) (af.ext T) fx fx ?_;refine fA ?_;refine gY aq fx fx fE fx (fJ (ku aM)) (λaO U H=>?_);refine fA ?_;have V:=D M H fy;refine hL fx fx fx U fE ?_;rw[ba];have aJ:=(am.ext T).fr H (λb E=>by have:=(am.gO E).1;have:=J.size;show ¬b=Q.heap.size;omega);refine⟨x',rfl,?_,by rw[L],V,λht=>?_⟩
 .rw[L];exact⟨f.a.ext V,f.c.ext V,aJ.rw⟩
 .rw[L];exact⟨(ht.ext V).a,(ht.ext V).c,λb E=>aJ.za E⟩
