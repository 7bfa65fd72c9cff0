/- Parts of the proof. -/
import Derived.Test.YtecaahegomdbbaaGreatDoorRfYa
set_option linter.all false
set_option maxRecDepth 100000
set_option maxHeartbeats 64000000
namespace Go.Proofs.YtecaahegomdbbaaGreatDoor.gp
open Go.Proofs.Tryz
open Go.RowKit
variable {w:World}
section
attribute [local irreducible] xs T
theorem ra:∀(r:List hJ) (c:hJ),fE (lS c r)=c.data.length+fE r
 |[],c=>by simp[lS,fE]
 |p::r,c=>by
  rw[lS];split
  ·rw[ra r,hQ,fE];omega
  ·rw[fE,ra r,fE]
theorem DD (l:List hJ):fE (jC l)=fE l:=by
 cases l with
 |nil=>rfl
 |cons p r=>rw[jC,ra,fE]
theorem kj {x:gG} (f:ix w x):(gz x).all (·.oneCell')=true:=by
 obtain⟨s,c1,g,_⟩:=f.a;obtain⟨t,c2,m,_⟩:=f.c;obtain⟨u,c3,n,_⟩:=f.d;unfold gz;rw[g,m,n];rfl
theorem xZ {n:Nd} (h:jP n=true):ME n.data/\fE n.data<=4000/\0<=n.size/\n.size<=1099511627776/\n.data.length<=16:=by
 obtain⟨f1,f2,f3,f4,f5,f6⟩:=(kB n).1 h
 have f:∀l:List hJ,∀p∈l,p.data.length<=fE l:=by
  intro l
  induction l with
  |nil=>intro p a;cases a
  |cons q l g=>
   intro p a;rw[fE];rcases hX.1 a with rfl|a
   ·omega
   ·have:=g p a;omega
 refine⟨⟨fy,λp a=>?_⟩,f4,f1,f2,f3⟩;obtain⟨_,h1,d⟩:=f6 p a;have:=f _ p a;unfold gO at d;exact⟨h1,fy,by omega⟩
theorem LN {l:List hJ} {lo hi:Int} (h:ME l) (f:0<=lo/\lo<=4398046511104):ME (gW l lo hi):=by
 refine⟨mn (ru _ _ _) h.1,λq hq=>?_⟩;obtain⟨p,a,hc⟩:=Wm.1 hq;have d:=h.2 p a;have h1:=oo hc;refine⟨fy,by omega,?_⟩;unfold mP at hc;split at hc
 ·injection hc with hc
  subst hc;rw[kt,lH];omega
 ·cases hc
structure N8 (w:World) (x:gG):Prop where
 a:∀b,x.va.ownBlock=some b->∃cs,fU w b 68 cs
 c:∀b,x.vc.ownBlock=some b->∃cs,fU w b 70 cs
 d:∀b,x.vd.ownBlock=some b->∃cs,fU w b 39 cs
theorem N8.ext {w w':World} {x:gG} (h:N8 w x) (g:Ext w w'):N8 w' x:=
 ⟨λb f=>by obtain⟨cs,hc⟩:=h.a b f;exact⟨cs,hc.ext g⟩,λb f=>by obtain⟨cs,hc⟩:=h.c b f;exact⟨cs,hc.ext g⟩,λb f=>by obtain⟨cs,hc⟩:=h.d b f;exact⟨cs,hc.ext g⟩⟩
def qM (w:World) (S:Nat->Prop):Prop:=∀b,S b->∃t cs,fU w b t cs/\t≠68/\t≠70/\t≠39
theorem qM.one {g t:Nat} {cs:Array Value} (h:fU w g t cs) (h1:t≠68/\t≠70/\t≠39):qM w (· =g):=λ_ a=>⟨t,cs,a▸h,h1⟩
theorem qM.own {α:Type} {a:α->List Value} {z B t:Nat} {v:Value} {l:List α} (h:Ow a z w B t v l) (h1:t≠68/\t≠70/\t≠39):qM w (λb=>v.ownBlock=some b):=λb d=>by
 obtain⟨cs,hc⟩:=h.x3 d;exact⟨t,cs,hc,h1⟩
structure NG (w:World) (x:gG):Prop where
 i:ix w x
 t:N8 w x
theorem NG.ext {w w':World} {x:gG} (h:NG w x) (a:Ext w w'):NG w' x:=⟨h.i.ext a,h.t.ext a⟩
theorem NG.fr {S:Nat->Prop} {w w':World} {x:gG} (h:NG w x) (g:Fr S w w') (s:qM w S):NG w' x:=by
 have key:∀b t cs,fU w b t cs->(t=68∨t=70∨t=39)->¬S b:=λb t _ f ht u=>by
  obtain⟨t',y,v,h1,m,n⟩:=s b u
  have:t=t':=by
   by_cases e:t=t'
   ·exact e
   ·exact absurd fx (f.Br v e)
  subst this;rcases ht with ht|ht|ht
  ·exact h1 ht
  ·exact m ht
  ·exact n ht
 refine⟨⟨h.i.a.fr g λb f=>?_,h.i.c.fr g λb f=>?_,h.i.d.fr g λb f=>?_⟩,⟨λb f=>?_,λb f=>?_,λb f=>?_⟩⟩
 ·obtain⟨cs,hc⟩:=h.t.a b f;exact key b _ cs hc (.inl rfl)
 ·obtain⟨cs,hc⟩:=h.t.c b f;exact key b _ cs hc (.inr (.inl rfl))
 ·obtain⟨cs,hc⟩:=h.t.d b f;exact key b _ cs hc (.inr (.inr rfl))
 ·obtain⟨cs,hc⟩:=h.t.a b f;exact⟨cs,hc.fr g (key b _ cs hc (.inl rfl))⟩
 ·obtain⟨cs,hc⟩:=h.t.c b f;exact⟨cs,hc.fr g (key b _ cs hc (.inr (.inl rfl)))⟩
 ·obtain⟨cs,hc⟩:=h.t.d b f;exact⟨cs,hc.fr g (key b _ cs hc (.inr (.inr rfl)))⟩
def NdR (w:World) (x:gG) (n:Nd) (e:Int) (r:Value) (w':World):Prop:=∃x',r= .tuple #[.agg (gz x').toArray,.int .i64 e]/\ix w' x'/\x'.n=n/\Ext w w'/\(N8 w x->N8 w' x')
theorem I0 (w:World) (x:gG) (size:Int) (s:ix w x) (v:fE x.n.data<=1000000) (ar:x.n.target.length<=1000000):fL prog 27 #[.agg (gz x).toArray,.int .i64 size] w (NdR w x (ki x.n size).1 (ki x.n size).2):=by
 refine gK func27 fx fF ?_;have F:∀{a b c:World} {g:Nat},Ext a b->Fr (· =g) b c->a.heap.size<=g->Ext a c:=λh1 ad aw=>h1.trans ad λj aq e=>absurd aq fy
 refine fA ?_;refine hD fx (λy ag X ax=>?_);have B:fU y w.heap.size 37 (gz x).toArray:=ag;refine fA ?_;refine gy (z:= .agg tP) fF (λab ah L ay=>?_);have I:fU ab y.heap.size 37 tP:=ah;refine fA ?_;refine gM (t:=37) (B.ext L) fx fx ?_;refine fA ?_;refine fG fx fx (oW ab x (s.ext (X.t L)) v ar) (λr E ae=>?_);obtain⟨rfl,C⟩:=ae;have u:Ext y E:=L.t C;have G:Ext w E:=X.t u;have k0:E.cell? ⟨w.heap.size,0,none⟩=some (.int .i64 x.n.kind):=(B.ext u).cell 0
 have bad:(fH x.n=false∨x.n.kind≠2∨size<0∨1099511627776<size)->∀f,fU f y.heap.size 37 (gz x).toArray->Fr (· =y.heap.size) E f->NdR w x (ki x.n size).1 (ki x.n size).2 (.tuple #[.agg (gz x).toArray,.int .i64 1]) f:=λh f _ Q=>by
  have e:ki x.n size=(x.n,1):=if_pos h;rw[e];exact⟨x,rfl,s.ext (F G Q fy),rfl,F G Q fy,λh=>h.ext (F G Q fy)⟩
 cases U:fH x.n with
 |false=>
  refine fA ?_;refine gM (t:=37) (B.ext u) fx fx ?_;refine fA ?_;refine hd (I.ext C) fx fx fF fx (fJ (kj s)) (λf m D=>?_);refine fA ?_;exact hP fx fx fx m fF (bad (.inl U) f m D)
 |true=>
 by_cases g1:x.n.kind≠2
 ·refine fA ?_;refine gM (t:=37) (B.ext u) fx fx ?_;refine fA ?_;refine hd (I.ext C) fx fx fF fx (fJ (kj s)) (λf m D=>?_);refine fA ?_;exact hP fx fx fx m fF (bad (.inr (.inl g1)) f m D)
 by_cases g2:size<0
 ·refine fA ?_;refine gM (t:=37) (B.ext u) fx fx ?_;refine fA ?_;refine hd (I.ext C) fx fx fF fx (fJ (kj s)) (λf m D=>?_);refine fA ?_;exact hP fx fx fx m fF (bad (.inr (.inr (.inl g2))) f m D)
 by_cases g3:1099511627776<size
 ·refine fA ?_;refine gM (t:=37) (B.ext u) fx fx ?_;refine fA ?_;refine hd (I.ext C) fx fx fF fx (fJ (kj s)) (λf m D=>?_);refine fA ?_;exact hP fx fx fx m fF (bad (.inr (.inr (.inr g3))) f m D)
 have ao:ki x.n size=({x.n with data:=gW x.n.data 0 size,size:=size},0):=if_neg (by rw[U];simp only[V4,false_or];omega);rw[ao];obtain⟨f1,f2,f3,f4,f5⟩:=xZ (jc U fy);obtain⟨A,c,W,au,av,_⟩:=s.d.op ha;have k8:E.cell? ⟨w.heap.size,8,none⟩=some x.vd:=(B.ext u).cell 8;rw[W]at k8;have aa:=s.d;rw[W]at aa;refine fA ?_;refine fG fx fx (tI E _ x.n.data 0 size (aa.ext G) f1 fy) (λr f af=>?_);obtain⟨M,O⟩:=af;obtain⟨V,c4,rfl,_,_⟩:=M.form;have m:fU f w.heap.size 37 (gz x).toArray:=(B.ext u).ext O;refine fA ?_;refine iq m fx fx fF fx fx (λaA ai R=>?_);refine fA ?_;refine iq ai fx fx fF fx fx (λK aj S=>?_);obtain⟨x',J⟩:∃x':gG,x'=⟨{x.n with data:=gW x.n.data 0 size,size:=size},x.va,x.vc,.slice V (gW x.n.data 0 size).length c4⟩:=⟨_,rfl⟩;have ak:fU K w.heap.size 37 (gz x').toArray:=by rw[J];exact aj
 have am:Ext w f:=G.t O;have N:Ext w K:=F (F am R (gJ _)) S (gJ _);have az:=u.size;have T:Ow j5 2 K E.heap.size 39 (.slice V (gW x.n.data 0 size).length c4) (gW x.n.data 0 size):=(M.fr R (λb v=>by have:=(M.gH v).1;show ¬b=w.heap.size;omega)).fr S (λb v=>by have:=(M.gH v).1;show ¬b=w.heap.size;omega);have ap:ix K x':=by rw[J];exact⟨s.a.ext N,s.c.ext N,T.rw⟩
 have an:fU K y.heap.size 37 tP:=((I.ext (C.t O)).fr R (show ¬y.heap.size=w.heap.size by omega)).fr S (show ¬y.heap.size=w.heap.size by omega);refine fA ?_;refine gM (t:=37) ak fx fx ?_;refine fA ?_;refine hd an fx fx fF fx (fJ (kj ap)) (λaB al Y=>?_);refine fA ?_;have H:=F N Y fy;refine hP fx fx fx al fF ⟨x',rfl,?_,by rw[J],H,λht=>?_⟩
 all_goals have Z:=T.fr Y (λb v=>by have:=(T.gH v).1;have:=L.size;have:=C.size;show ¬b=y.heap.size;omega)
 ·rw[J];exact⟨s.a.ext H,s.c.ext H,Z.rw⟩
 ·rw[J];exact⟨(ht.ext H).a,(ht.ext H).c,λb v=>Z.x3 v⟩
theorem xk (w:World) (x:gG) (at_:Int) (s:fQ) (f:ix w x) (E:fE x.n.data<=1000000) (be:x.n.target.length<=1000000) (bF:s.length<=100000):fL prog 26 #[.agg (gz x).toArray,.int .i64 at_,.string (su s)] w (NdR w x (gB x.n at_ s).1 (gB x.n at_ s).2):=by
 refine kz func26 fx fF ?_;have D:∀{a b c:World} {g:Nat},Ext a b->Fr (· =g) b c->a.heap.size<=g->Ext a c:=λh1 aR bs=>h1.trans aR λj ar e=>absurd ar fy
 refine fA ?_;refine hD fx (λQ aV aA bt=>?_);have F:fU Q w.heap.size 37 (gz x).toArray:=aV;refine fA ?_;refine gy (z:= .agg tP) fF (λaP a0 ah bv=>?_);have O:fU aP Q.heap.size 37 tP:=a0;refine fA ?_;refine gM (t:=37) (F.ext ah) fx fx ?_;refine fA ?_;refine fG fx fx (oW aP x (f.ext (aA.t ah)) E be) (λr y aS=>?_);obtain⟨rfl,J⟩:=aS;have C:Ext Q y:=ah.t J;have S:Ext w y:=aA.t C;have k0:y.cell? ⟨w.heap.size,0,none⟩=some (.int .i64 x.n.kind):=(F.ext C).cell 0
 have bad:∀e,gB x.n at_ s=(x.n,e)->∀v,fU v Q.heap.size 37 (gz x).toArray->Fr (· =Q.heap.size) y v->NdR w x (gB x.n at_ s).1 (gB x.n at_ s).2 (.tuple #[.agg (gz x).toArray,.int .i64 e]) v:=λe h v _ N=>by
  rw[h];exact⟨x,rfl,f.ext (D S N fy),rfl,D S N fy,λh=>h.ext (D S N fy)⟩
 have Y:(fH x.n=false∨x.n.kind≠2∨at_<0∨1099511627776<at_)->gB x.n at_ s=(x.n,1):=λh=>if_pos h
 cases ab:fH x.n with
 |false=>
  refine fA ?_;refine gM (t:=37) (F.ext C) fx fx ?_;refine fA ?_;refine hd (O.ext J) fx fx fF fx (fJ (kj f)) (λv m G=>?_);refine fA ?_;exact hP fx fx fx m fF (bad 1 (Y (.inl ab)) v m G)
 |true=>
 by_cases g1:x.n.kind≠2
 ·refine fA ?_;refine gM (t:=37) (F.ext C) fx fx ?_;refine fA ?_;refine hd (O.ext J) fx fx fF fx (fJ (kj f)) (λv m G=>?_);refine fA ?_;exact hP fx fx fx m fF (bad 1 (Y (.inr (.inl g1))) v m G)
 by_cases g2:at_<0
 ·refine fA ?_;refine gM (t:=37) (F.ext C) fx fx ?_;refine fA ?_;refine hd (O.ext J) fx fx fF fx (fJ (kj f)) (λv m G=>?_);refine fA ?_;exact hP fx fx fx m fF (bad 1 (Y (.inr (.inr (.inl g2)))) v m G)
 by_cases g3:1099511627776<at_
 ·refine fA ?_;refine gM (t:=37) (F.ext C) fx fx ?_;refine fA ?_;refine hd (O.ext J) fx fx fF fx (fJ (kj f)) (λv m G=>?_);refine fA ?_;exact hP fx fx fx m fF (bad 1 (Y (.inr (.inr (.inr g3)))) v m G)
 have aa:¬(fH x.n=false∨x.n.kind≠2∨at_<0∨1099511627776<at_):=by rw[ab];simp only[V4,false_or];omega
 by_cases g4:1099511627776-at_<(s.length:Int)
 ·refine Uf ?_;refine gM (t:=37) (F.ext C) fx fx ?_;refine fA ?_;refine hd (O.ext J) fx fx fF fx (fJ (kj f)) (λv m G=>?_);refine fA ?_;exact hP fx fx fx m fF (bad 2 ((if_neg aa).trans (if_pos g4)) v m G)
 by_cases g5:s=[]
 ·repeat' (first|refine iH rfl rfl ?_|refine gq (op:= .eql) (b:=[]) (r:=true) rfl rfl (by simp[hZ,g5]) ?_|refine fT ?_|fail)
  refine gM (t:=37) (F.ext C) fx fx ?_;refine fA ?_;refine hd (O.ext J) fx fx fF fx (fJ (kj f)) (λv m G=>?_);refine fA ?_;exact hP fx fx fx m fF (bad 0 ((if_neg aa).trans ((if_neg g4).trans (if_pos g5))) v m G)
 obtain⟨f1,f2,f3,f4,f5⟩:=xZ (jc ab fy);have hw:=D5 (jc ab fy) (show 0<=at_ by omega) g5 fy;obtain⟨A,c,ax,bm,bp,_⟩:=f.d.op ha;have k8:y.cell? ⟨w.heap.size,8,none⟩=some x.vd:=(F.ext C).cell 8;rw[ax]at k8;have av:=f.d;rw[ax]at av;have bn:=lI x.n.data 0 at_;have bo:=ru x.n.data 0 at_;have bq:=lI x.n.data (at_+(s.length:Int)) 1099511627777;have br:=ru x.n.data (at_+(s.length:Int)) 1099511627777
 repeat' (first|refine iH rfl rfl ?_|refine gq (op:= .eql) (b:=[]) (r:=false) rfl rfl (by simp[hZ,g5]) ?_|refine fT ?_|fail)
 refine fG fx fx (tI y _ x.n.data 0 at_ (av.ext S) f1 fy) (λr v aT=>?_);obtain⟨an,aF⟩:=aT;obtain⟨bi,c4,rfl,_,_⟩:=an.form;have bw:=C.size;have bx:=aF.size;obtain⟨q,hq⟩:∃q:hJ,q=⟨at_,s⟩:=⟨_,rfl⟩;refine fA ?_;refine qv (parts:=[(0,.tmp 48),(1,.tmp 49)]) (cells:=(j5 q).toArray) (vs:=[(0,.int .i64 q.pos),(1,.string (su q.data))]) (by rw[hq];rfl) fF ?_;refine nY kk fx fx fV fV (λbK a1 aj bz=>?_);have bA:=aj.size;refine jI (B:=y.heap.size) (news:=j5 q) kk fx fV fx (an.ext aj) fx (gS a1 fV fx) fx (λu hu=>lV [_] u (by simpa using hu)) (by unfold maxLen;omega) fy fy (λv6 ae a5 a3 _=>?_);have ao:Ow j5 2 ae y.heap.size 39 v6 (gW x.n.data 0 at_++[q]):=Ow.ext1 (l':=[q]) (by simpa using a5);obtain⟨bj,c6,rfl,_,_⟩:=ao.form;have Z:Ext y ae:=(aF.t aj).trans a3 λj ar h=>by have:=(an.gH h).1;omega
 have bB:=Z.size;have bc:(gW x.n.data 0 at_++[q]).length=(gW x.n.data 0 at_).length+1:=by simp
 have bI:ae.cell? ⟨w.heap.size,8,none⟩=some (.slice A x.n.data.length c):=Z.cell k8;refine fA ?_;refine fG fx fx (tI ae _ x.n.data (at_+(s.length:Int)) 1099511627777 (av.ext (S.t Z)) f1 fy) (λr bL aU=>?_);obtain⟨aK,ak⟩:=aU;obtain⟨bk,c7,rfl,_,_⟩:=aK.form;have bC:=ak.size;refine jI (B:=y.heap.size) (news:=(gW x.n.data (at_+(s.length:Int)) 1099511627777).flatMap j5) kk fx fV fx (ao.ext ak) fx aK.rw (gl ha _) (lV _) (by unfold maxLen;omega) fy fy (λbg W a6 a4 _=>?_);have aL:Ow j5 2 W y.heap.size 39 bg (gW x.n.data 0 at_++[q]++gW x.n.data (at_+(s.length:Int)) 1099511627777):=Ow.ext1 a6;obtain⟨bl,c8,rfl,_,_⟩:=aL.form;have aD:Ext y W:=(Z.t ak).trans a4 λj ar h=>by have:=(ao.gH h).1;omega
 have bD:=aD.size;have aN:jC (gW x.n.data 0 at_++[q]++gW x.n.data (at_+(s.length:Int)) 1099511627777)=qN x.n.data at_ s:=by rw[hq];rfl
 have a9:fE (gW x.n.data 0 at_++[q]++gW x.n.data (at_+(s.length:Int)) 1099511627777)<=200000:=by
  rw[iG,iG,hq];simp only[fE];omega
 have bd:ME (gW x.n.data 0 at_++[q]++gW x.n.data (at_+(s.length:Int)) 1099511627777):=by
  refine⟨by rw[hQ,bc];omega,λp K=>?_⟩;rcases iK.1 K with K|K
  ·rcases iK.1 K with K|K
   ·exact(LN f1 fy).2 p K
   ·rw[kl.1 K,hq];exact⟨by dsimp only;omega,by dsimp only;omega,by dsimp only;omega⟩
  ·exact(LN f1 fy).2 p K
 refine fA ?_;refine fG fx fx (DP W _ _ aL.rw bd fy) (λr I ay=>?_);rw[aN]at ay;obtain⟨ap,aG⟩:=ay;obtain⟨X,c9,rfl,_,_⟩:=ap.form;have aE:Ext y I:=aD.t aG;have bE:=aG.size;have bG:fE (qN x.n.data at_ s)<=200000:=by rw[←aN,DD];exact a9
 refine fA ?_;refine gM (t:=37) ((F.ext C).ext aE) fx fx ?_;refine fA ?_;refine gy (z:= .agg tP) fF (λbJ aW aB bu=>?_);refine hd aW fx fx fF fx (fJ (kj f)) (λaw aX aH=>?_);have aC:Ext y aw:=D (aE.t aB) aH fy;have k7:aw.drew.cell? ⟨w.heap.size,7,none⟩=some (.int .i64 x.n.size):=((F.ext C).ext aC).cell 7;refine MI ?_;refine kZ [63] (λw'=>w'.cell? ⟨w.heap.size,7,none⟩=some (.int .i64 x.n.size)) fF (by decide+kernel) k7 ?_
 repeat' (first|refine rO rfl rfl (λ_ h=>h) ?_|refine FO ?_|fail)
 refine iq (w:=aw.drew) aX fx fx fF fx fx (λbh aY al=>?_) (λw' N=>N.cell k7 (show ¬w.heap.size=I.heap.size by omega));refine MI ?_;have bf:bh.cell? ⟨w.heap.size,7,none⟩=some (.int .i64 x.n.size):=al.cell k7 (show ¬w.heap.size=I.heap.size by omega);refine iq aY fx fx fF fx fx (λR aZ aI=>?_) (λw' N=>N.cell bf (show ¬w.heap.size=I.heap.size by omega));obtain⟨x',L⟩:∃x':gG,x'=⟨{x.n with data:=qN x.n.data at_ s,size:=max x.n.size (at_+(s.length:Int))},x.va,x.vc,.slice X (qN x.n.data at_ s).length c9⟩:=⟨_,rfl⟩;have af:fU R I.heap.size 37 (gz x').toArray:=by rw[L];exact aZ
 have ai:Ext y R:=D (D aC.ed al fy) aI fy;have ag:Ext w R:=S.t ai;have au:∀b,(Value.slice X (qN x.n.data at_ s).length c9).ownBlock=some b->W.heap.size<=b/\b<I.heap.size:=λb E=>ap.gH E
 have am:Ow j5 2 R W.heap.size 39 (.slice X (qN x.n.data at_ s).length c9) (qN x.n.data at_ s):=
  (((((ap.ext aB).fr aH (λb E=>by have:=au b E;show ¬b=I.heap.size;omega)).ext (Fr.drew _ _)).fr al (λb E=>by have:=au b E;show ¬b=I.heap.size;omega)).fr aI (λb E=>by have:=au b E;show ¬b=I.heap.size;omega))
 have aM:ix R x':=by rw[L];exact⟨f.a.ext ag,f.c.ext ag,am.rw⟩
 have a8:fE x'.n.data<=1000000:=by rw[L];dsimp only;omega
 have a7:fU R Q.heap.size 37 tP:=(O.ext J).ext ai;refine fA ?_;refine gM (t:=37) af fx fx ?_;refine fA ?_;refine fG fx fx (rL R x' aM a8) (λr ad aQ=>?_);obtain⟨rfl,T⟩:=aQ;have ba:x'.n.data=qN x.n.data at_ s:=by rw[L]
 rw[ba]
 have bH:ad.cell? ⟨I.heap.size,8,none⟩=some (.slice X (qN x.n.data at_ s).length c9):=by
  have:=(af.ext T).cell 8;rw[this,L];rfl
 have M:Ext w ad:=ag.t T;have a2:Ext y ad:=ai.t T;have az:fU ad w.heap.size 37 (gz x).toArray:=(F.ext C).ext a2;have aq:=a7.ext T;have lim:(4000<fE (qN x.n.data at_ s)∨16<(qN x.n.data at_ s).length)->gB x.n at_ s=(x.n,13):=λh=>(if_neg aa).trans ((if_neg g4).trans ((if_neg g5).trans (if_pos h)))
 by_cases g6:4000<fE (qN x.n.data at_ s)
 ·refine fA ?_;refine gM (t:=37) az fx fx ?_;refine fA ?_;refine hd aq fx fx fF fx (fJ (kj f)) (λaO U H=>?_);refine fA ?_;refine hP fx fx fx U fF ?_;rw[lim (.inl g6)];exact⟨x,rfl,f.ext (D M H fy),rfl,D M H fy,λh=>h.ext (D M H fy)⟩
 by_cases g7:16<(qN x.n.data at_ s).length
 ·refine fA ?_;refine gM (t:=37) az fx fx ?_;refine fA ?_;refine hd aq fx fx fF fx (fJ (kj f)) (λaO U H=>?_);refine fA ?_;refine hP fx fx fx U fF ?_;rw[lim (.inr g7)];exact⟨x,rfl,f.ext (D M H fy),rfl,D M H fy,λh=>h.ext (D M H fy)⟩
 have bb:gB x.n at_ s=({x.n with data:=qN x.n.data at_ s,size:=max x.n.size (at_+(s.length:Int))},0):=(if_neg aa).trans ((if_neg g4).trans ((if_neg g5).trans (if_neg fy)));refine fA ?_;refine gM (t:=37) (af.ext T) fx fx ?_;refine fA ?_;refine hd aq fx fx fF fx (fJ (kj aM)) (λaO U H=>?_);refine fA ?_;have V:=D M H fy;refine hP fx fx fx U fF ?_;rw[bb];have aJ:=(am.ext T).fr H (λb E=>by have:=(am.gH E).1;have:=J.size;show ¬b=Q.heap.size;omega);refine⟨x',rfl,?_,by rw[L],V,λht=>?_⟩
 ·rw[L];exact⟨f.a.ext V,f.c.ext V,aJ.rw⟩
 ·rw[L];exact⟨(ht.ext V).a,(ht.ext V).c,λb E=>aJ.x3 E⟩
end
end Go.Proofs.YtecaahegomdbbaaGreatDoor.gp
