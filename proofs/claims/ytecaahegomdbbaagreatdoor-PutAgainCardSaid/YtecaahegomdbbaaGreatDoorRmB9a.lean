/- Parts of the proof. -/
import Derived.Test.YtecaahegomdbbaaGreatDoorRmB2
import Derived.Test.YtecaahegomdbbaaGreatDoorRmWt
import Derived.Test.YtecaahegomdbbaaGreatDoorRmYa
import Derived.Test.YtecaahegomdbbaaGreatDoorRmZj
set_option linter.all false
set_option maxRecDepth 99999
set_option maxHeartbeats 0
namespace Go.Proofs.YtecaahegomdbbaaGreatDoor.gr
open Go.Proofs.Tryz
open Go.RowKit
variable {fO:ip gG} {B g:Nat} {ve vf vn:i6} {w w':i5} {p:fL} {m m':hA}
section
def JA (ve vn:i6) (fO:ip gG) (b:Nat):Prop:=ve.ownBlock=some b\/vn.ownBlock=some b\/∃x∈fO,x.va.ownBlock=some b\/x.vc.ownBlock=some b\/x.vd.ownBlock=some b
def mE.fr {S:Nat->Prop} {w w':i5} {ve vn:i6} {fO:ip gG} {t:fZ} (h:mE w ve vn fO t) (u:Fr S w w') (v:∀b,JA ve vn fO b->¬S b):mE w' ve vn fO t:=
 ⟨h.e.fr u λb f=>v b (.inl f),h.n.fr u λb f=>v b (.inr (.inl f)),λx g=>⟨(h.i x g).a.fr u λb f=>v b (.inr (.inr ⟨x,g,.inl f⟩)),(h.i x g).c.fr u λb f=>v b (.inr (.inr ⟨x,g,.inr (.inl f)⟩)),(h.i x g).d.fr u λb f=>v b (.inr (.inr ⟨x,g,.inr (.inr f)⟩))⟩,h.m⟩
structure Bx (w:World) (g:Nat) (m:hA) (vf ve vn:Value) (fO:List gG) (t:fZ):Prop where
 k:fW w g 88 (J4 m vf ve vn)
 f:Rw SS w vf m.nD
 tr:mE w ve vn fO t
 af:vf.ownBlock≠some g
 a:∀b,JA ve vn fO b->b≠g
 r:∀e∈t.es,0<=e.node/\e.node<t.ns.length
 h:0<t.es.length
 l:∀n∈t.ns,GZ n
 s:uV t.ns
 le:t.es.length<=1000000
 ln:t.ns.length<=1000000
 lt:∀b,vf.ownBlock=some b\/JA ve vn fO b->b<w.heap.size
def Bx.ext {w w':i5} {g:Nat} {m:hA} {vf ve vn:i6} {fO:ip gG} {t:fZ} (h:Bx w g m vf ve vn fO t) (d:Ext w w'):Bx w' g m vf ve vn fO t:=⟨h.k.ext d,h.f.ext d,h.tr.ext d,h.af,h.a,h.r,h.h,h.l,h.s,h.le,h.ln,λb n=>BX (h.lt b n) d.size⟩
def Bx.fr {S:Nat->Prop} {w w':i5} {g:Nat} {m:hA} {vf ve vn:i6} {fO:ip gG} {t:fZ} (h:Bx w g m vf ve vn fO t) (n:Fr S w w') (u:∀b,b=g\/vf.ownBlock=some b\/JA ve vn fO b->¬S b):Bx w' g m vf ve vn fO t:=
 ⟨h.k.fr n (u g (.inl rfl)),h.f.fr n λb d=>u b (.inr (.inl d)),h.tr.fr n λb d=>u b (.inr (.inr d)),h.af,h.a,h.r,h.h,h.l,h.s,h.le,h.ln,λb d=>BX (h.lt b d) n.size⟩
theorem Bx.put {t:fZ} (h:Bx w g m vf ve vn fO t) (n:Fr (· =g) w w') (hk:fW w' g 88 (J4 m' vf ve vn)) (u:m'.nD=m.nD):Bx w' g m' vf ve vn fO t:=
 ⟨hk,by rw[u];exact h.f.fr n λb d e=>h.af (by rw[d,e]),h.tr.fr n λb d e=>h.a b d e,h.af,h.a,h.r,h.h,h.l,h.s,h.le,h.ln,λb d=>BX (h.lt b d) n.size⟩
def Bx.off {k:Nat} {t:fZ} (h:Bx w g m vf ve vn fO t) (f:Fr (· =k) w w') (u:g<k) (n:∀b,vf.ownBlock=some b\/JA ve vn fO b->b<k):Bx w' g m vf ve vn fO t:=
 h.fr f λb d=>by
  rcases d with rfl|d
  .show ¬_=k;omega
  .have:=n b d;show ¬_=k;omega
def iW (m:hA):(gj m).2.2.nD=m.nD:=by
 unfold gj;split
 .rfl
 .split
  .rfl
  .split<;>rfl
def pd (h:fW w g 88 (J4 m vf ve vn)):∀j u,[ve,vn][j]? =some u->w.cell? ⟨g,4+j,none⟩=some u:=by
 intro j u hu;rcases j with _|_|j
 .injection hu with hu;subst hu;exact h.cell 4
 .injection hu with hu;subst hu;exact h.cell 5
 .simp at hu
theorem w6 {t:fZ} (f:∀e∈t.es,0<=e.node/\e.node<t.ns.length) {k:Int} (h:fK t.es p=some k):∃i:Nat,k=i/\i<t.ns.length:=by
 obtain⟨e,he,_,d⟩:=gT h;have:=f e he;rw[d]at this;exact⟨k.toNat,fy,by omega⟩
attribute [local irreducible] xs T
def tM (w:i5) (x:gG) (M:Rw jO w x.va x.n.attrs) (hc:Rw lA w x.vc x.n.acl) (la:x.n.attrs.length<=1000000) (lc:x.n.acl.length<=1000000):fQ prog 54 #[.agg (qV x).toArray] w λr w'=>∃va vc,r= .agg (qV ⟨x.n,va,vc,x.vd⟩).toArray/\Ow jO 2 w' w.heap.size 68 va x.n.attrs/\Ow lA 3 w' w.heap.size 70 vc x.n.acl/\Ext w w':=by
 refine gD func54 fx fE ?_;obtain⟨n,va,vc,vd⟩:=x;dsimp only at M hc la lc|-;obtain⟨O,c1,rfl,_,_,_⟩:=M.op jX;obtain⟨Q,c2,rfl,_,_,_⟩:=hc.op j7;refine fA ?_;refine hP fx (λF Y J aj=>?_);refine fA ?_;refine gx (z:= .agg #[.I 0,.I 0,.I 0,.I 0,.slice none 0 0,.slice none 0 0]) fE (λG Z C ak=>?_);have S:fW G w.heap.size 34 (qV ⟨n,.slice O n.attrs.length c1,.slice Q n.acl.length c2,vd⟩).toArray:=fW.ext Y C;have k1:gc G w.heap.size 4 (.slice O n.attrs.length c1):=S.cell 4;refine fA ?_;refine jH (B:=G.heap.size) (news:=n.attrs.flatMap jO) yr fx fU fx (gK.nil _ _ _ _) fx (Row.ext M (J.t C)) (gn jX _) (Bo _) (by unfold maxLen;omega) fy (gJ _) (λv1 ag d ad _=>?_);have D:Ext G ag:=ad.mono λ_ _ h=>by cases h
 have L:∀{a b c:i5} {g:Nat},Ext a b->Fr (· =g) b c->a.heap.size<=g->Ext a c:=λh1 X ai=>h1.trans X λj af e=>absurd af fy
 rw[iM]at d;obtain⟨R,d1,rfl,_,_⟩:=d.form;refine fA ?_;refine ir (fW.ext S D) fx fx fE fx fx (λH T E=>?_);have k2:gc H w.heap.size 5 (.slice Q n.acl.length c2):=T.cell 5;have V:Ext w H:=L ((J.t C).t D) E (gJ _);refine fA ?_;refine jH (B:=H.heap.size) (news:=n.acl.flatMap lA) Fy fx fU fx (gK.nil _ _ _ _) fx (Row.ext hc V) (gn j7 _) (Fo _) (by unfold maxLen;omega) fy (gJ _) (λv2 ah y ae _=>?_);have f:Ext H ah:=ae.mono λ_ _ h=>by cases h
 rw[iM]at y;obtain⟨B2,d2,rfl,_,_⟩:=y.form;refine fA ?_;refine ir (fW.ext T f) fx fx fE fx fx (λW U u=>?_)
 have aa:fW W w.heap.size 34 (qV ⟨n,.slice R n.attrs.length d1,.slice B2 n.acl.length d2,vd⟩).toArray:=by
  simp only[iM]at U;exact U
 have am:=J.size;have z2:=C.size;have z3:=D.size;have z4:=E.size;have z5:=f.size;have an:=u.size;refine fA ?_;refine gR (t:=34) aa fx fx ?_;have I:=((((fW.ext Z D).fr E (show ¬F.heap.size=w.heap.size by omega)).ext f).fr u (show ¬F.heap.size=w.heap.size by omega));refine fA ?_;refine gY I fx fx fE fx (fJ (l:=qV ⟨n,.slice R n.attrs.length d1,.slice B2 n.acl.length d2,vd⟩) fx) (λal I K=>?_);have ab:Ext w W:=L (V.t f) u (gJ _);refine fA ?_;have ne:∀{w':i5} {B:Nat} {e:i9} {z m:Nat} {v:i6} {vs:ip i6},gK w' B e z v m vs->w.heap.size<B->∀b,v.ownBlock=some b->¬b=w.heap.size:=λh fY b N=>by have:=(h.gO N).1;omega
 have ne':∀{w':i5} {B:Nat} {e:i9} {z m:Nat} {v:i6} {vs:ip i6},gK w' B e z v m vs->F.heap.size<B->∀b,v.ownBlock=some b->¬b=F.heap.size:=λh fY b N=>by have:=(h.gO N).1;omega
 exact CP fx fx I fE ⟨_,_,rfl,gK.mono (((((d.fr E (ne d fy)).ext f).fr u (ne d fy)).fr K (ne' d fy))) fy,gK.mono ((y.fr u (ne y fy)).fr K (ne' y fy)) fy,L ab K fy⟩
def tZ (w:i5) (g:Nat) (m:hA) (vf ve vn:i6) (fO:ip gG) (t:fZ) (p:fL) (h:Bx w g m vf ve vn fO t):fQ prog 43 #[.P g,.U p] w λr w'=>r= .I (jf t p)/\Ext w w':=by
 refine gP func43 fx fE ?_;have C:=h.tr;obtain⟨A,c,rfl,Z,ab,Y⟩:=C.e.op gi;obtain⟨G,I,rfl,aa,ad,R⟩:=C.n.op gw;have hlen:=C.len;refine fA ?_
 refine iq (α:=Option fL×Int×Nat) 0 fx (λx=>[(0,.P g),(5,.I x.2.1),(6,.U (x.1.getD [])),(7,.bool x.1.isSome)])
  (λx w'=>Ext w w'/\(∀q,x.1=some q->q.length<x.2.2)/\jW t x.2.2 x.1 x.2.1=jf t p) (λx=>x.2.2) ?_ ?_
 .rintro⟨o,bad,f⟩ F ⟨v,K,d⟩;dsimp only at v K d|-;have M:=h.k.ext v;have k5:gc F g 5 (.slice G fO.length I):=M.cell 5;cases o with
  |none=>
   have S:jW t f none bad=bad:=by cases f<;>rfl
   rw[S]at d;refine fA ?_;exact fB fx fx ⟨by rw[d],v⟩
  | some q=>
   obtain⟨f,rfl⟩:∃f',f=f'+1:=⟨f-1,by have:=K q rfl;omega⟩;have O:∀r,iI q=some r->r.length<f:=λr U=>by have h1:=F5 U;have X:=K q rfl;omega
   rw[jW]at d;simp only[Bl,AN];refine fA ?_;refine hV (cs:=[.slice A t.es.length c,.slice G fO.length I]) fx fE (pd M) ?_;refine fA ?_;refine fI fx fx (kk F _ _ t.es q (C.e.ext v)) ?_;rintro r u ⟨rfl,E⟩;have D:Ext w u:=v.t E;have ae:gc u g 5 (.slice G fO.length I):=E.cell k5;cases L:fK t.es q with
   |none=>
    rw[L]at d;dsimp only at d;simp only[tx,BW];refine fA ?_;refine fI fx fx (lW u q) ?_;rintro r W ⟨rfl,J⟩;refine fA ?_;exact hy fx ⟨_,by dsimp only;omega,rfl,(iI q,7,f),sub ⟨rfl,rfl,rfl,rfl⟩,⟨D.t J,O,d⟩,rfl⟩
   | some k=>
    obtain⟨i,rfl,hi⟩:=w6 h.r L;rw[L]at d;simp only[je]at d;obtain⟨b,o,y,rfl,_,V,_,T⟩:=R.at_ (i:=i) fy;have B:gc u b (o+i*12+0) (.I y.n.kind):=D.cell (T 0 _ rfl);have Q:(t.ns.getD i default).kind=y.n.kind:=by rw[C.getD V]
    simp only[Bl,AN]
    by_cases B:(t.ns.getD i default).kind=1
    .have hk:y.n.kind=1:=Q▸B;rw[if_pos B]at d;refine Rx ?_;refine fI fx fx (lW u q) ?_;rintro r W ⟨rfl,J⟩;refine fA ?_;exact hy fx ⟨_,by dsimp only;omega,rfl,(iI q,bad,f),sub ⟨rfl,rfl,rfl,rfl⟩,⟨D.t J,O,d⟩,rfl⟩
    .have hk:¬y.n.kind=1:=λe=>B (Q.trans e)
     rw[if_neg B]at d;refine Rx ?_;exact fB fx fx ⟨by rw[d],D⟩
 .intro H;refine fA ?_;refine fI fx fx (oC w p) ?_;rintro r F ⟨rfl,N⟩;cases hm:gX p with
  |false=>
   refine fA ?_;exact fB fx fx ⟨by unfold jf;rw[hm];rfl,N⟩
  |true=>
   refine fA ?_;refine fI fx fx (lW F p) ?_;rintro r u ⟨rfl,E⟩;refine fA ?_;refine hI ?_;exact iw (H (iI p,0,p.length+1) u ⟨N.t E,λq hq=>by have:=F5 hq;dsimp only;omega,by unfold jf;rw[hm];rfl⟩) (sub ⟨rfl,rfl,rfl,rfl⟩)
def nq (w:i5) (g:Nat) (m:hA) (vf ve vn:i6) (fO:ip gG) (t:fZ) (p:fL) (h:Bx w g m vf ve vn fO t):fQ prog 53 #[.P g,.U p] w λr w'=>r= .tuple #[.I (hD t p).1,.I (hD t p).2]/\Ext w w':=by
 refine gP func53 fx fE ?_;have f:=h.tr;obtain⟨A,c,rfl,D,F,B⟩:=f.e.op gi;obtain⟨v,x,rfl,E,G,C⟩:=f.n.op gw;refine fA ?_;refine fI fx fx (tZ w g m vf _ _ fO t p h) ?_;rintro r y ⟨rfl,d⟩;unfold hD
 by_cases h0:jf t p=0
 .rw[if_neg (λh=>h h0),h0];refine fA ?_;refine hV (cs:=[.slice A t.es.length c,.slice v fO.length x]) fx fE (pd (h.k.ext d)) ?_;refine fA ?_;refine fI fx fx (kk y _ _ t.es p (f.e.ext d)) ?_;rintro r I ⟨rfl,u⟩;cases H:fK t.es p with
  |none=>
   simp only[tx,BW];refine fA ?_;exact ia fx fx fx ⟨rfl,d.t u⟩
  |some k=>
   simp only[Bl,AN];refine fA ?_;exact ia fx fx fx ⟨rfl,d.t u⟩
 .rw[if_pos h0];refine fA ?_;exact ia fx fx fx ⟨rfl,d⟩
end
section
def pO (m:hA) (t:fZ) (p:fL):Int:=if(gj m).2.1=0 then(hD t p).2 else(gj m).2.1
def nodeAt (t:fZ) (k:Int):Nd:=t.ns.getD k.toNat default
def No:gG:=⟨default,.slice none 0 0,.slice none 0 0,.slice none 0 0⟩
def Gq (w:i5) (B:Nat):rj w B No:=⟨Ow.nil _ _ _,Ow.nil _ _ _,Ow.nil _ _ _⟩
def find_range {t:fZ} (d:∀e∈t.es,0<=e.node/\e.node<t.ns.length) (h:(hD t p).2=0):∃i:Nat,(hD t p).1=i/\i<t.ns.length:=by
 grind [hD, jf, fK, absurd, w6]
attribute [local irreducible] xs T
def Bm (w:i5) (g:Nat) (m:hA) (vf ve vn:i6) (fO:ip gG) (t:fZ) (p:fL) (h:Bx w g m vf ve vn fO t) (hc:0<=m.calls/\m.calls<=4000000000000000000):
  fQ prog 21 #[.P g,.U p] w λr w'=>∃x',r= .tuple #[.agg (gB x').toArray,.I (pO m t p)]/\rj w' w.heap.size x'/\x'.n=(if pO m t p=0 then nodeAt t (hD t p).1 else default)/\Bx w' g (gj m).2.2 vf ve vn fO t/\Fr (· =g) w w':=by
 refine gP func21 fx fE ?_;have K:=h.tr;obtain⟨A,c,rfl,aT,aV,aS⟩:=K.e.op gi;obtain⟨aR,az,rfl,aU,aW,aA⟩:=K.n.op gw;have hlen:=K.len;have Y:=h.k.lt;refine fA ?_;refine gx (z:= .agg tH) fE (λaP aB ai aY=>?_);have h1:=h.ext ai;refine fA ?_;refine fI fx fx (lM aP g m vf _ A _ c h1.k h1.h h1.f hc h1.af) ?_;rintro r ab ⟨rfl,aD,X⟩;have S:=h1.put X aD (iW m);have V:Fr (· =g) w ab:=ai.fr.t X;have an:fW ab w.heap.size 37 tH:=fW.fr aB X fy;have z2:=V.size
 by_cases e:(gj m).2.1=0
 .have Z:pO m t p=(hD t p).2:=by unfold pO;rw[if_pos e]
  rw[Z,e];refine fA ?_;refine fI fx fx (nq ab g _ vf _ _ fO t p S) ?_;rintro r x ⟨rfl,N⟩;have h3:=S.ext N;have W:=V.te N;have ao:=an.ext N
  by_cases e':(hD t p).2=0
  .obtain⟨i,hi,aX⟩:=find_range h.r e';rw[hi,e',if_pos rfl];obtain⟨b,o,y,rfl,v,ar,_,aM⟩:=aA.at_ (i:=i) fy;have aL:b≠g:=h.a b (.inr (.inl rfl));have a0:=h.tr.i y fM;have aO:nodeAt t (i:Int)=y.n:=by unfold nodeAt;rw[je];exact K.getD ar
   have av:=h.l y.n (jT (K.get ar));have au:=h3.tr.i y fM;have k5:gc x g 5 (.S b o fO.length az):=h3.k.cell 5;refine Rx ?_;refine hV (cs:=gB y) fx fE (λj u hu=>W.cell (aM j u hu) aL) ?_;refine fA ?_;refine gx (z:= .agg tH) fE (λaw C al aZ=>?_);refine fA ?_;refine gY C fx fx fE fx (by grind [fJ, gB, List.all_eq_true, iC]) (λQ ae am=>?_);have aG:Ext x Q:=al.trans am fM;have aj:Ext x Q:=aG
   have aN:∀j u,(qV y)[j]? =some u->Q.cell? ⟨x.heap.size,1+j,none⟩=some u:=λj u hu=>by
    rw[ae.cell,po];rcases j with _|_|_|_|_|_|j
    all_goals first|exact hu|simp[qV]at hu
   refine fA ?_;refine hV (cs:=qV y) fx fE aN ?_;have aa:=au.ext aj;refine fI fx fx (tM Q y aa.a aa.c av.a av.c) ?_;rintro r a3 ⟨va,vc,rfl,I,J,U⟩;obtain⟨L,c1,rfl,_,_⟩:=I.form;obtain⟨M,c2,rfl,_,_⟩:=J.form;have aE:=ae.ext U;refine fA ?_
   refine Yd (q:=1) (vs:=qV ⟨y.n,.slice L y.n.attrs.length c1,.slice M y.n.acl.length c2,y.vd⟩) (nw:=(gB ⟨y.n,.slice L y.n.attrs.length c1,.slice M y.n.acl.length c2,y.vd⟩).toArray) aE fx fx fE (by show 7<=12;omega) (λu hu=>by
    simp only[qV,iu,tf,or_false]at hu
    rcases hu with rfl|rfl|rfl|rfl|rfl|rfl<;>rfl) rfl (λR ag O=>?_)
   obtain⟨ay,c3,aq,_,_,_⟩:=aa.d.op hB;have k8:R.cell? ⟨x.heap.size,8,none⟩=some (.slice ay y.n.data.length c3):=by rw[<-aq];exact ag.cell 8
   have z3:=N.size;have z4:=al.size;have z5:=am.size;have a4:=U.size;have a5:=O.size;have ak:Ext x R:=(aj.t U).trans O fM;have ap:=au.d.ext ak;rw[aq]at ap;refine fA ?_;refine jH (B:=R.heap.size) (news:=y.n.data.flatMap kc) ks fx fU fx (gK.nil _ _ _ _) fx ap (gn hB _) (mh _) (by grind [GZ.d, maxLen]) (by grind [GZ.d]) (gJ _) (λa1 aQ H aH _=>?_);have D:Ext R aQ:=aH.mono λ_ _ h=>by cases h
   rw[iM]at H;obtain⟨ad,d3,rfl,_,_⟩:=H.form;refine fA ?_;refine ir (fW.ext ag D) fx fx fE fx fx (λax ah G=>?_)
   have aF:fW ax x.heap.size 37 (gB ⟨y.n,.slice L y.n.attrs.length c1,.slice M y.n.acl.length c2,.slice ad y.n.data.length d3⟩).toArray:=by
    simp only[iM]at ah;exact ah
   have a6:=D.size;have z9:=G.size;have T:Ext x ax:=(ak.t D).trans G fM;refine fA ?_;refine gR (t:=37) aF fx fx ?_;refine fA ?_;refine gY (ao.ext T) fx fx fE fx (fJ (l:=gB ⟨y.n,.slice L y.n.attrs.length c1,.slice M y.n.acl.length c2,.slice ad y.n.data.length d3⟩) fx) (λa2 aC E=>?_);have aI:=((((I.fr O λb v=>by have:=(I.gO v).1;omega).ext D).fr G λb v=>by have:=(I.gO v).1;omega).fr E λb v=>by have:=(I.gO v).1;omega);have aJ:=((((J.fr O λb v=>by have:=(J.gO v).1;omega).ext D).fr G λb v=>by have:=(J.gO v).1;omega).fr E λb v=>by have:=(J.gO v).1;omega);have aK:=((H.fr G λb v=>by have:=(H.gO v).1;omega).fr E λb v=>by have:=(H.gO v).1;omega);refine fA ?_;refine hL fx fx fx aC fE ⟨_,rfl,⟨aI.mono fy,aJ.mono fy,gK.mono aK fy⟩,aO.symm,?_,?_⟩
   .exact(h3.ext T).off E Y h.lt
   .exact((W.te T).trans E fM)
  .rw[if_neg e'];refine fA ?_;refine oQ (parts:=[]) (cells:=tH) fx fE ?_;refine fA ?_;refine gY ao fx fx fE fx (fJ (l:=gB No) fx) (λaw C F=>?_);refine fA ?_;refine hL fx fx fx C fE ⟨No,rfl,Gq _ _,rfl,?_,?_⟩
   .exact h3.off F Y h.lt
   .exact(W.trans F fM)
 .have Z:pO m t p=(gj m).2.1:=by unfold pO;rw[if_neg e]
  rw[Z,if_neg e];refine fA ?_;refine oQ (parts:=[]) (cells:=tH) fx fE ?_;refine fA ?_;refine gY an fx fx fE fx (fJ (l:=gB No) fx) (λaw C F=>?_);refine fA ?_;refine hL fx fx fx C fE ⟨No,rfl,Gq _ _,rfl,?_,?_⟩
  .exact S.off F Y h.lt
  .exact(V.trans F fM)
def wQ (w:i5) (g:Nat) (m:hA) (vf ve vn:i6) (fO:ip gG) (t u:fZ) (h:Bx w g m vf ve vn fO t) (hu:hQ t=some u):
  fQ prog 13 #[.P g] w λr w'=>∃G H y,r= .agg #[G,H]/\Fs w' w.heap.size G H y u/\Ext w w':=by
 refine gD func13 fx fE ?_;have O:=h.tr;obtain⟨A,c,rfl,ah,aj,af⟩:=O.e.op gi;obtain⟨T,U,rfl,ai,ak,ag⟩:=O.n.op gw;refine fA ?_;refine gx (z:= .agg #[.slice none 0 0,.slice none 0 0]) fE (λI V L al=>?_);have h1:=h.ext L;refine fA ?_;refine fI fx fx (xn I g m vf _ A _ c h1.k h1.h) ?_;rintro r R ⟨rfl,rfl⟩;refine fA ?_;refine hV (cs:=[.slice A t.es.length c,.slice T fO.length U]) fx fE (pd h1.k) ?_;refine fA ?_;refine fI fx fx (zL I _ _ fO t h1.tr h.s h.l) ?_;rintro r R ⟨M,N⟩;rw[hu]at N;obtain⟨G,H,y,rfl,E⟩:=N;obtain⟨J,c2,rfl,_,_⟩:=E.e.form;obtain⟨K,c3,rfl,_,_⟩:=E.n.form;refine fA ?_;refine gx (z:= .agg #[.slice none 0 0,.slice none 0 0]) fE (λan W aa am=>?_);refine fA ?_;refine gY W fx fx fE fx (fJ (l:=[.slice J u.es.length c2,.slice K y.length c3]) fx) (λS X ab=>?_);have D:Ext R S:=aa.trans ab fM;refine fA ?_;refine gR (t:=26) X fx fx ?_;refine fA ?_;refine gY ((fW.ext V M).ext D) fx fx fE fx (fJ (l:=[.slice J u.es.length c2,.slice K y.length c3]) fx) (λae Y C=>?_);have d:=E.ext D;have Z:Ext w S:=(L.t M).t D;refine fA ?_;refine CP fx fx Y fE ⟨_,_,y,rfl,?_,Z.trans C fM⟩;have ne:∀{w':i5} {B:Nat} {e:i9} {z m:Nat} {v:i6} {vs:ip i6},gK w' B e z v m vs->w.heap.size<B->∀b,v.ownBlock=some b->¬b=w.heap.size:=λh fY b F=>by have:=(h.gO F).1;omega
 have ad:Fs ae I.heap.size _ _ y u:=⟨d.e.fr C (ne d.e fy),d.n.fr C (ne d.n fy),λx Q=>(d.i x Q).fr C λb F=>by have:=(d.i x Q).f b F;omega,d.m⟩;exact ad.mono fy
def KP (w:i5) (g:Nat) (m:hA) (vf ve vn:i6) (h:fW w g 88 (J4 m vf ve vn)):fQ prog 11 #[.P g] w λr w'=>r= .I m.calls/\w=w':=by
 refine gD func11 fx fE ?_;have k2:gc w g 2 (.I m.calls):=h.cell 2;refine fA ?_;exact y2
def ua (w:i5) (g:Nat) (m:hA) (vf ve vn:i6) (h:fW w g 88 (J4 m vf ve vn)):fQ prog 46 #[.P g] w λr w'=>r= .I m.calls/\w=w':=by
 refine gD func46 fx fE ?_;refine fA ?_;refine fI fx fx (KP w g m vf ve vn h) ?_;rintro r d ⟨rfl,rfl⟩;refine fA ?_;exact y2
end
section
structure nJ (w:World) (B g:Nat) (m:hA) (vf ve vn:Value) (fO:List gG) (t:fZ):Prop where
 i:Bx w g m vf ve vn fO t
 o:Fs w B ve vn fO t
 f:Ow SS 2 w B 149 vf m.nD
 b:B<=g
theorem Fs.lt {t:fZ} (h:Fs w B ve vn fO t) {b:Nat} (f:JA ve vn fO b):B<=b/\b<w.heap.size:=by
 rcases f with f|f|⟨x,g,f|f|f⟩
 .exact h.e.gO f
 .exact h.n.gO f
 .exact(h.i x g).a.gO f
 .exact(h.i x g).c.gO f
 .exact(h.i x g).d.gO f
def Fs.fr {S:Nat->Prop} {w w':i5} {B:Nat} {ve vn:i6} {fO:ip gG} {t:fZ} (h:Fs w B ve vn fO t) (f:Fr S w w') (g:∀b,JA ve vn fO b->¬S b):Fs w' B ve vn fO t:=
 ⟨h.e.fr f λb d=>g b (.inl d),h.n.fr f λb d=>g b (.inr (.inl d)),λx u=>(h.i x u).fr f λb d=>g b (.inr (.inr ⟨x,u,d⟩)),h.m⟩
def nJ.ext {w w':i5} {B g:Nat} {m:hA} {vf ve vn:i6} {fO:ip gG} {t:fZ} (h:nJ w B g m vf ve vn fO t) (d:Ext w w'):nJ w' B g m vf ve vn fO t:=⟨h.i.ext d,h.o.ext d,h.f.ext d,h.b⟩
def nJ.fr {S:Nat->Prop} {w w':i5} {B g:Nat} {m:hA} {vf ve vn:i6} {fO:ip gG} {t:fZ} (h:nJ w B g m vf ve vn fO t) (d:Fr S w w') (n:∀b,b=g\/vf.ownBlock=some b\/JA ve vn fO b->¬S b):nJ w' B g m vf ve vn fO t:=
 ⟨h.i.fr d n,h.o.fr d λb u=>n b (.inr (.inr u)),h.f.fr d λb u=>n b (.inr (.inl u)),h.b⟩
def nJ.gO {w:i5} {B g:Nat} {m:hA} {vf ve vn:i6} {fO:ip gG} {t:fZ} (h:nJ w B g m vf ve vn fO t) {b:Nat} (d:b=g\/vf.ownBlock=some b\/JA ve vn fO b):B<=b/\b<w.heap.size:=by
 rcases d with rfl|d|d
 .exact⟨h.b,h.i.k.lt⟩
 .exact h.f.gO d
 .exact h.o.lt d
theorem nJ.put {t:fZ} (h:nJ w B g m vf ve vn fO t) (n:Fr (· =g) w w') (hi:Bx w' g m' vf ve vn fO t) (u:m'.nD=m.nD):nJ w' B g m' vf ve vn fO t:=
 ⟨hi,h.o.fr n λb d e=>h.i.a b d e,by rw[u];exact h.f.fr n λb d e=>h.i.af (by rw[d,e]),h.b⟩
def nP (q:Int) (t:fZ):Int:=if q<0\/1048576<q\/gM t=false then 1 else if q<(gf t.ns:Int)then 10 else 0
def Qg (q:Int) (fl:ip (Int×Int)) (t:fZ) (e:Int) (w:i5) (p:i6) (w':i5):Prop:=
 Ext w w'/\(e≠0/\p= .pointer none\/e=0/\∃g vf ve vn fO,p= .P g/\nJ w' w.heap.size g ⟨q,fl,0,false⟩ vf ve vn fO t)
def UL:x4 74 149 (.agg #[.I 0,.I 0]) 2 16:=Nq underlying74 fE
def Uz (l:ip (Int×Int)):∀u∈l.flatMap SS,u.oneCell'=true:=λu hu=>by
 obtain⟨x,_,d⟩:=xk.1 hu;simp only[SS,iu,tf,or_false]at d;rcases d with rfl|rfl<;>rfl
def Cu:Nd:=⟨1,493,0,0,0,[],[],0,[],[],0,0⟩
def jY:fZ:=⟨[⟨[],0⟩],[Cu]⟩
def L6:gG:=⟨Cu,.slice none 0 0,.slice none 0 0,.slice none 0 0⟩
def sU:gM jY=true:=by decide+kernel
theorem rA:gf jY.ns=0:=rfl
def TP (q:Int):Int:=if q<0\/1048576<q then 1 else 0
def TG (q:Int):nP q jY=TP q:=by
 unfold nP TP;rw[sU,rA]
 by_cases h:q<0\/1048576<q
 .rw[if_pos h,if_pos (h.elim .inl λh=> .inr (.inl h))]
 .rw[if_neg h,if_neg (λd=>d.elim (λa=>h (.inl a)) λd=>d.elim (λa=>h (.inr a)) λa=>by cases a),if_neg (show ¬q<((0:Nat):Int)from λa=>h (.inl a))]
attribute [local irreducible] xs T
def DY (w:i5) (ve vn vf:i6) (fO:ip gG) (t:fZ) (q:Int) (fl:ip (Int×Int)) (E:mE w ve vn fO t) (ae:Rw SS w vf fl) (Z:∀n∈t.ns,GZ n) (hs:uV t.ns) (le:t.es.length<=1000000) (ln:t.ns.length<=1000000) (aL:fl.length<=1000000):
  fQ prog 17 #[.agg #[ve,vn],.I q,vf] w λr w'=>∃p,r= .tuple #[p,.I (nP q t)]/\Qg q fl t (nP q t) w p w':=by
 refine kg func17 fx fE ?_;obtain⟨A,c,rfl,aF,aH,aC⟩:=E.e.op gi;obtain⟨ak,al,rfl,aG,aI,aD⟩:=E.n.op gw;obtain⟨ay,az,rfl,aJ,aK,aE⟩:=ae.op Fu;refine fA ?_;refine hP fx (λah am G aN=>?_);have K:fW ah w.heap.size 26 #[.slice A t.es.length c,.slice ak fO.length al]:=am
 by_cases h1:q<0
 .have he:nP q t=1:=by unfold nP;rw[if_pos (.inl h1)]
  rw[he];refine fA ?_;exact ia fx fx fx ⟨_,rfl,G,.inl ⟨by decide,rfl⟩⟩
 by_cases V:1048576<q
 .have he:nP q t=1:=by unfold nP;rw[if_pos (.inr (.inl V))]
  rw[he];refine fA ?_;exact ia fx fx fx ⟨_,rfl,G,.inl ⟨by decide,rfl⟩⟩
 refine fA ?_;refine gR (t:=26) K fx fx ?_;refine fA ?_;refine fH fx fx (sy ah _ _ fO t (E.ext G) hs) (λr ax h=>?_);obtain⟨rfl,O⟩:=h;have M:=G.t O;cases hm:gM t with
 |false=>
  have he:nP q t=1:=by unfold nP;rw[if_pos (.inr (.inr hm))]
  rw[he];refine fA ?_;exact ia fx fx fx ⟨_,rfl,M,.inl ⟨by decide,rfl⟩⟩
 | true=>
  have af:¬(q<0\/1048576<q\/gM t=false):=by
   rintro(a|a|a)
   .exact h1 a
   .exact V a
   .rw[hm]at a;cases a
  refine fA ?_;refine gR (t:=26) (fW.ext K O) fx fx ?_;refine fA ?_;refine fH fx fx (xr ax _ _ fO t (E.ext M) hs ln) (λr ai h=>?_);obtain⟨rfl,W⟩:=h;have F:=M.t W
  by_cases h3:q<(gf t.ns:Int)
  .have he:nP q t=10:=by unfold nP;rw[if_neg af,if_pos h3]
   rw[he];refine fA ?_;exact ia fx fx fx ⟨_,rfl,F,.inl ⟨by decide,rfl⟩⟩
  have he:nP q t=0:=by unfold nP;rw[if_neg af,if_neg h3]
  rw[he];refine fA ?_;refine gR (t:=26) ((fW.ext K O).ext W) fx fx ?_;refine fA ?_;refine fI fx fx (zL ai _ _ fO t (E.ext F) hs Z) ?_;rintro r T ⟨aq,ag⟩;rw[D2 hm]at ag;obtain⟨aR,aS,m,rfl,J⟩:=ag;obtain⟨y,c2,rfl,_,_⟩:=J.e.form;obtain⟨C,c3,rfl,_,_⟩:=J.n.form;refine fA ?_;refine gx (z:= .agg #[.slice none 0 0,.slice none 0 0]) fE (λaT an ar aO=>?_);refine fA ?_;refine gY an fx fx fE fx (fJ (l:=[.slice y t.es.length c2,.slice C m.length c3]) fx) (λg L av=>?_);have H:Ext T g:=ar.trans av λj aM e=>by have:j=T.heap.size:=e;omega
  have N:Ext w g:=(F.t aq).t H;refine gz2 ?_;refine lk [36] (λw'=>fW w' T.heap.size 26 #[.slice y t.es.length c2,.slice C m.length c3]) fE (by decide+kernel) L.drew ?_;have au:Ext w g.drew:=N.d;refine fA ?_;refine jH (B:=g.drew.heap.size) (news:=fl.flatMap SS) UL fx fU fx (gK.nil _ _ _ _) fx (Row.ext ae au) (gn Fu _) (Uz _) (by unfold maxLen;omega) fy (gJ _) (λaQ x I S _=>?_) (λx S=>fW.fr L.drew S λh=>by cases h);have X:Ext g.drew x:=S.mono λ_ _ h=>by cases h
  rw[iM]at I;obtain⟨U,c7,rfl,_,_⟩:=I.form;have ao:=fW.ext L.drew X;have Q:Ext g x:=(Fr.drew hJ g).t X;refine fA ?_;refine sf (cs:=[.slice y t.es.length c2,.slice C m.length c3]) fx fE (λw' (h:fW w' _ _ _) j u hu=>by unfold gc;rw[iM,h.cell,po];exact hu) ?_;refine fA ?_;refine oQ (cells:=J4 ⟨q,fl,0,false⟩ (.slice U fl.length c7) (.slice y t.es.length c2) (.slice C m.length c3)) fx (by first|rfl|kernel_rfl) ?_;refine fA ?_;refine hP fx (λaj ap D aP=>?_) (λaj D=>ao.ext D);have R:=Q.t D;have ab:Fs aj ai.heap.size _ _ m t:=(J.ext H).ext R;have aa:=I.ext D;have z3:=F.size;have aU:=N.size;have z4:=(H.t R).size;have aW:g.drew.heap.size=g.heap.size:=rfl
  have ad:∀b,JA (.slice y t.es.length c2) (.slice C m.length c3) m b->b<x.heap.size:=λb f=>by
   have:=(J.lt f).2;have aA:=(H.t Q).size;omega
  have Y:∀b,(Value.slice U fl.length c7).ownBlock=some b->b<x.heap.size:=λb f=>(I.gO f).2
  have aw:=ni hm;have aV:=Q.size;refine fA ?_
  refine ia fx fx fx ⟨_,rfl,(N.t R),.inr ⟨rfl,x.heap.size,_,_,_,m,rfl,⟨⟨ap,aa.row,ab.v,λe=>by have:=Y _ e;omega,λb f e=>by have:=ad b f;omega,aw.inr,by unfold gM at hm;simp only[iU,decide_eq_true_eq]at hm;exact hm.1.1.1.1,Z,hs,le,ln,λb f=>by
   have aB:=D.size;rcases f with f|f
   .have:=Y b f;omega
   .have:=ad b f;omega⟩,ab.mono fy,gK.mono aa fy,fy⟩⟩⟩
def GA (w:i5) (vf:i6) (q:Int) (fl:ip (Int×Int)) (V:Rw SS w vf fl) (W:fl.length<=1000000):
  fQ prog 8 #[.I q,vf] w λr w'=>Qg q fl jY (TP q) w r w':=by
 refine gP func8 fx fE ?_;refine fA ?_;refine oQ (cells:= #[.I 493,.I 0,.I 0,.I 0,.slice none 0 0,.slice none 0 0]) fx fE ?_;refine oQ (cells:=(gB L6).toArray) fx fE ?_;refine fA ?_;refine gx (z:= .agg tH) fE (λaf H N aa=>?_);refine fA ?_;refine gY H fx fx fE fx (fJ (l:=gB L6) fx) (λd I S=>?_);have O:Ext w d:=N.trans S λj X e=>by have:j=w.heap.size:=e;omega
 refine fA ?_;refine oQ (cells:=(hR ⟨[],0⟩).toArray) fx fE ?_;refine nV iO fx fx fU fU (λB J D ab=>?_);refine fA ?_;refine gR (t:=37) (fW.ext I D) fx fx ?_;refine fA ?_;refine nV mi fx fx fU fU (λG K E ad=>?_);refine fA ?_;refine oQ (cells:= #[.S d.heap.size 0 1 1,.S B.heap.size 0 1 1]) fx fE ?_;refine fA ?_;refine gx (z:= .agg #[.slice none 0 0,.slice none 0 0]) fE (λag L Q ae=>?_);refine fA ?_;refine gY L fx fx fE fx (fJ (l:=[.S d.heap.size 0 1 1,.S B.heap.size 0 1 1]) fx) (λm M T=>?_);have v:Ext G m:=Q.trans T λj X e=>by have:j=G.heap.size:=e;omega
 have u:Ext w m:=((O.t D).t E).t v
 have U:mE m (.S d.heap.size 0 1 1) (.S B.heap.size 0 1 1) [L6] jY:=
  ⟨gQ (n:=1) ((fW.ext J E).ext v) fU rfl,gQ (n:=1) (fW.ext K v) fU rfl,λx Y=>by
   rw[jS.1 Y];exact⟨Rw.nil _ _ fU,Rw.nil _ _ fU,Rw.nil _ _ fU⟩,rfl⟩
 refine fA ?_;refine gR (t:=26) M fx fx ?_;refine fA ?_;refine fI fx fx (DY m _ _ vf [L6] jY q fl U (V.ext u) (λn y=>by rw[jS.1 y];exact⟨by decide,by decide,by decide⟩) (λn y=>by rw[jS.1 y];decide) fU fU W) ?_;rintro r Z ⟨p,rfl,R,F⟩;rw[TG]at F|-;have C:=u.size;have key:Qg q fl jY (TP q) w p Z:=⟨u.t R,F.imp id λ⟨a,g,vf,ve,vn,fO,b,c⟩=>⟨a,g,vf,ve,vn,fO,b,c.i,c.o.mono C,gK.mono c.f C,ly C c.b⟩⟩;refine fA ?_;exact fB fx fx key
end
section
def WQ {P:Program} {fn:Func} {d:i6->i5->Prop} {k:ip It} {Y:Env} {f:Nat->Env->i5->Prop} (h:T P fn d k Y w):T P fn d (.wu f::k) Y w:=λa g=>h a g
def Ep (g:Nat) (ve vn:i6) (b:Nat):Prop:=b=g\/ve.ownBlock=some b\/vn.ownBlock=some b
def NdB (x:gG) (b:Nat):Prop:=x.va.ownBlock=some b\/x.vc.ownBlock=some b\/x.vd.ownBlock=some b
structure iY (w:World) (B g:Nat) (vf ve vn:Value) (fO:List gG) (w':World) (m':hA) (t':fZ) (ve' vn':Value) (abJ:List gG):Prop where
 o:nJ w' B g m' vf ve' vn' abJ t'
 f:Fr (Ep g ve vn) w w'
 k:∀b,Ep g ve' vn' b->Ep g ve vn b\/w.heap.size<=b
 n:∀x∈abJ,∀b,NdB x b->(∃y∈fO,NdB y b)\/w.heap.size<=b
theorem iY.t {G H:i5} {C E D F:i6} {u v:ip gG} {m1 m2:hA} {t1 t2:fZ} (h1:iY w B g vf ve vn fO G m1 t1 C E u) (d:iY G B g vf C E u H m2 t2 D F v):iY w B g vf ve vn fO H m2 t2 D F v:=by
 have z:=h1.f.size;refine⟨d.o,h1.f.trans d.f λj L I=>?_,λb m=>?_,λx J b m=>?_⟩
 .rcases h1.k j I with h|h<;>grind
 .rcases d.k b m with h|h
  .exact h1.k b h
  omega
 .rcases d.n x J b m with⟨y,K,h⟩|h
  .exact h1.n y K b h
  omega
theorem iY.put {w w':i5} {B g:Nat} {m m':hA} {vf ve vn:i6} {fO:ip gG} {t:fZ} (h:nJ w B g m vf ve vn fO t) (f:Fr (· =g) w w') (hi:Bx w' g m' vf ve vn fO t) (n:m'.nD=m.nD):iY w B g vf ve vn fO w' m' t ve vn fO:=
 ⟨h.put f hi n,f.mono λ_ _ d=> .inl d,λ_ d=> .inl d,fM⟩
def iY.ext {w w':i5} {B g:Nat} {m:hA} {vf ve vn:i6} {fO:ip gG} {t:fZ} (h:nJ w B g m vf ve vn fO t) (d:Ext w w'):iY w B g vf ve vn fO w' m t ve vn fO:=
 ⟨h.ext d,d.fr,λ_ f=> .inl f,fM⟩
def nJ.of {t:fZ} (hk:fW w g 88 (J4 m vf ve vn)) (u:Fs w B ve vn fO t) (y:Ow SS 2 w B 149 vf m.nD) (f:B<=g)
  (F:∀e∈t.es,0<=e.node/\e.node<t.ns.length) (h0:0<t.es.length) (E:∀n∈t.ns,GZ n) (hs:uV t.ns) (le:t.es.length<=1000000) (ln:t.ns.length<=1000000):nJ w B g m vf ve vn fO t:=by
 have ne:∀{α:Type} {D:α->ip i6} {z:Nat} {e:i9} {v:i6} {l:ip α},Ow D z w B e v l->e≠88->∀b,v.ownBlock=some b->b≠g:=λh1 he b f=>by
  obtain⟨G,hm⟩:=h1.za f;exact hm.Dm hk he
 refine⟨⟨hk,y.rw,u.v,fM,λb f=>?_,F,h0,E,hs,le,ln,λb f=>f.elim (λh=>(y.gO h).2) λh=>(u.lt h).2⟩,u,y,f⟩;rcases f with f|f|⟨x,C,f|f|f⟩
 .exact ne u.e fU b f
 .exact ne u.n fU b f
 .exact ne (u.i x C).a fU b f
 .exact ne (u.i x C).c fU b f
 .exact ne (u.i x C).d fU b f
def nJ.step {H I:i6} {F:ip gG} {t:fZ} {C:ip En} {y:ip Nd} (h:nJ w B g m vf ve vn fO t) (E:Fr (Ep g ve vn) w w') (hm:m'.nD=m.nD)
  (hk:fW w' g 88 (J4 m' vf H I)) (he:Ow hR 2 w' B 49 H C) (N:Ow gB 12 w' B 37 I F) (hi:∀x∈F,rj w B x) (O:F.map (·.n)=y)
  (Q:∀e∈C,0<=e.node/\e.node<y.length) (h0:0<C.length) (M:∀n∈y,GZ n) (hs:uV y) (le:C.length<=1000000) (ln:y.length<=1000000):nJ w' B g m' vf H I F ⟨C,y⟩:=by
 have ne:∀{α:Type} {J:α->ip i6} {z:Nat} {e:i9} {v:i6} {l:ip α},Ow J z w B e v l->e≠88->e≠49->e≠37->∀b,v.ownBlock=some b->¬Ep g ve vn b:=λh1 K h3 L b G D=>by
  obtain⟨R,hm⟩:=h1.za G;rcases D with rfl|D|D
  .exact hm.Dm h.i.k K fx
  .exact h1.apart h.o.e h3 G D
  .exact h1.apart h.o.n L G D
 exact nJ.of hk ⟨he,N,λx u=>⟨(hi x u).a.fr E (ne (hi x u).a fU fU fU),(hi x u).c.fr E (ne (hi x u).c fU fU fU),(hi x u).d.fr E (ne (hi x u).d fU fU fU)⟩,O⟩ (by rw[hm];exact h.f.fr E (ne h.f fU fU fU)) h.b Q h0 M hs le ln
def O5 (x:gG) (c:Int):gB ⟨gA x.n c,x.va,x.vc,x.vd⟩=(gB x).set 4 (.I c):=rfl
def PL {es:ip En} {k:Int} {e:En} (h:e∈oN es p k):e=⟨p,k⟩\/e∈es:=by
 grind [oN, List.mem_of_mem_take, List.mem_of_mem_drop]
theorem vQ (es:ip En) (p:fL) (k:Int):(oN es p k).length=es.length+1:=by
 grind [oN, SA, List.length_append, List.length_cons, List.length_take, List.length_drop]
def Sp {es:ip En} {i:Nat} {e:En} (h:es.drop i=e::es.drop (i+1)) (hi:i+Cq p (es.drop i)=Cq p es):if ix e.path p=true then i+1+Cq p (es.drop (i+1))=Cq p es else i=Cq p es:=by
 grind [Cq]
attribute [local irreducible] xs T
def Db (w:i5) (g:Nat) (m:hA) (vf ve vn:i6) (fO:ip gG) (t:fZ) (p:fL) (h:Bx w g m vf ve vn fO t):fQ prog 45 #[.P g,.U p] w λr w'=>r= .I (tB t p)/\Ext w w':=by
 refine gP func45 fx fE ?_;have f:=h.tr;obtain⟨A,c,rfl,C,E,y⟩:=f.e.op gi;obtain⟨u,v,rfl,D,F,B⟩:=f.n.op gw;unfold tB;refine fA ?_;refine hV (cs:=[.slice A t.es.length c,.slice u fO.length v]) fx fE (pd h.k) ?_;refine fA ?_;refine fI fx fx (kk w _ _ t.es p f.e) ?_;rintro r x ⟨rfl,d⟩;have k4:gc x g 4 (.slice A t.es.length c):=(h.k.ext d).cell 4;cases G:fK t.es p with
 |some k=>
  simp only[Bl,AN];refine fA ?_;exact UF
 |none=>
  simp only[tx,BW]
  by_cases h1:100<=t.es.length
  .rw[if_neg fU,if_pos h1];refine fA ?_;exact UF
  .rw[if_neg fU,if_neg h1];refine fA ?_;exact UF
def uo (w:i5) (B g:Nat) (m:hA) (vf ve vn:i6) (fO:ip gG) (t:fZ) (p:fL) (h:nJ w B g m vf ve vn fO t):fQ prog 95 #[.P g,.U p] w λr w'=>r= .tuple #[]/\∃Y,iY w B g vf ve vn fO w' m (j8 t p m.calls) ve vn Y:=by
 refine gP func95 fx fE ?_;have M:=h.i.tr;have hlen:=M.len;refine fA ?_;refine fI fx fx (lW w p) ?_;rintro r Z ⟨rfl,H⟩;unfold wi;cases L:iI p with
 |none=>
  have C:j8 t p m.calls=t:=by unfold j8 rM;rw[L]
  rw[C];simp only[tx,BW];refine fA ?_;exact Gw fx ⟨rfl,fO,iY.ext h H⟩
 | some q=>
  simp only[Bl,AN];have h1:=h.ext H;refine fA ?_;refine hV (cs:=[ve,vn]) fx fE (pd h1.i.k) ?_;refine fA ?_;refine fI fx fx (kk Z _ _ t.es q h1.i.tr.e) ?_;rintro r D ⟨rfl,T⟩;have G:Ext w D:=H.t T;cases J:fK t.es q with
  |none=>
   have C:j8 t p m.calls=t:=by unfold j8 rM;rw[L];dsimp only;rw[J]
   rw[C];simp only[tx,BW];refine fA ?_;exact mr fx ⟨rfl,fO,iY.ext h G⟩
  | some k=>
   obtain⟨i,rfl,hi⟩:=w6 h.i.r J;have ae:i<fO.length:=fy;obtain⟨f,cN,rfl,ab,ad,aa,_,_⟩:=gK.go h.o.n fy;obtain⟨x,E⟩:∃x,fO[i]? =some x:=lX;have u:=h.ext G.d;have k5:gc D.drew g 5 (.S f 0 fO.length cN):=u.i.k.cell 5;have X:f≠g:=h.i.a f (.inr (.inl rfl));simp only[Bl,AN];refine fA ?_;refine lk [29] (λw'=>gc w' g 5 (.S f 0 fO.length cN)) fE (by decide+kernel) k5 ?_;refine HE ?_;refine fI fx fx (ua D.drew g m vf _ _ u.i.k) ?_ fM;rintro r af ⟨rfl,rfl⟩;refine Q6 ?_;refine Xz gw i 4 u.o.n fx fx fy fy fE fx E (O5 x m.calls) (λQ V I=>?_) (λw' U=>U.cell k5 fM);have R:Fr (Ep g ve (.S f 0 fO.length cN)) D.drew Q:=I.mono λb _ v=> .inr (.inr (by have:b=f:=v;rw[this];rfl))
   have N:=u.o.i x fM
   have C:j8 t p m.calls=⟨t.es,t.ns.set i (gA x.n m.calls)⟩:=by
    unfold j8 rM;rw[L];dsimp only;rw[J];dsimp only;rw[je,M.getD E]
   have S:∀n∈t.ns.set i (gA x.n m.calls),n∈t.ns\/n=gA x.n m.calls:=fM;have F:x.n∈t.ns:=jT (M.get E)
   have key:nJ Q B g m vf ve (.S f 0 fO.length cN) (fO.set i ⟨gA x.n m.calls,x.va,x.vc,x.vd⟩) ⟨t.es,t.ns.set i (gA x.n m.calls)⟩:=
    u.step R rfl (u.i.k.fr I (λe=>X e.symm)) (u.o.e.fr I λb v e=>u.o.e.apart u.o.n fU v (by have:b=f:=e;rw[this];rfl)) V
     (λy O=>(x3 O).elim (u.o.i y) λe=>by rw[e];exact⟨N.a,N.c,N.d⟩) (by rw[vz,h.o.m]) (by rw[nS];exact h.i.r) h.i.h
     (λn K=>(S n K).elim (h.i.l n) λe=>by rw[e];exact⟨(h.i.l _ F).a,(h.i.l _ F).c,(h.i.l _ F).d⟩) (λn K=>(S n K).elim (h.i.s n) λe=>by rw[e];exact(show fF x.n.data<=1000000 from h.i.s _ F)) h.i.le (by rw[nS];exact h.i.ln)
   have W:iY w B g vf ve (.S f 0 fO.length cN) fO Q m (j8 t p m.calls) ve (.S f 0 fO.length cN) (fO.set i ⟨gA x.n m.calls,x.va,x.vc,x.vd⟩):=by
    rw[C];exact⟨key,(show Ext w D.drew from G.d).fr.t R,λ_ v=> .inl v,λy O b v=> .inl ((x3 O).elim fM λe=>⟨x,jT E,by rw[e]at v;exact v⟩)⟩
   refine fA ?_;exact mr fx ⟨rfl,_,W⟩
def AW (w:i5) (B g:Nat) (m:hA) (vf ve vn:i6) (fO:ip gG) (t:fZ) (p:fL) (k:Nat) (h:nJ w B g m vf ve vn fO t) (hk:k<t.ns.length) (av:t.es.length<=900000):fQ prog 47 #[.P g,.U p,.I (k:Int)] w λr w'=>r= .tuple #[]/\∃ao M,iY w B g vf ve vn fO w' m (tW t p k m.calls) ao vn M:=by
 refine kg func47 fx fE ?_;have h0:=h.i.h;obtain⟨f,G,rfl,ar,au,aq,_,_⟩:=gK.go h.o.e fy;obtain⟨_,_,e0,_,_,af⟩:=h.o.e.rw.op gi;injection e0 with e0 _ _
 subst e0;have hlen:=h.i.tr.len;refine iq (α:=Nat) 0 fx (λi=>[(0,.P g),(1,.U p),(2,.I (k:Int)),(6,.I (i:Int))]) (λi w'=>Ext w w'/\i<=t.es.length/\i+Cq p (t.es.drop i)=Cq p t.es) (λi=>t.es.length-i) ?_ ?_
 .rintro i N ⟨K,hi,aa⟩;have h1:=h.ext K;have k4:gc N g 4 (.S f 0 t.es.length G):=h1.i.k.cell 4;have T:f≠g:=h.i.a f (.inl rfl)
  have Z:∀(u y:i5) (v3:i6) (gv:Nat),Ext w u->Ow hR 2 y B 49 v3 (t.es.take (Cq p t.es)++⟨p,(k:Int)⟩::t.es.drop (Cq p t.es))->Fr (· =f) u y->(∀b,v3.ownBlock=some b->b=f\/u.heap.size<=b)->∀v,fW v g 88 (J4 m vf v3 vn)->Fr (· =g) y v->iY w B g vf (.S f 0 t.es.length G) vn fO v m ⟨oN t.es p k,t.ns⟩ v3 vn fO:=λu y v3 gv E C x an v J F=>by
   have h3:=h.ext E;have z3:=E.size;have X:Fr (Ep g (.S f 0 t.es.length G) vn) u v:=(x.mono λb _ d=> .inr (.inl (by have:b=f:=d;rw[this];rfl))).t (F.mono λb _ d=> .inl d)
   have aj:∀b,v3.ownBlock=some b->¬b=g:=λb d=>by
    obtain⟨cs,ah⟩:=C.za d;exact ah.Dm (h3.i.k.fr x (λe=>T e.symm)) fU
   have al:∀b,vn.ownBlock=some b->¬b=f:=λb d e=>h.o.n.apart h.o.e fU d (by rw[e];rfl)
   have ak:∀b,vn.ownBlock=some b->¬b=g:=λb d=>h.i.a b (.inr (.inl d))
   refine⟨h3.step X fx J (C.fr F aj) ((h3.o.n.fr x al).fr F ak) h3.o.i h.o.m (λe he=>?_) (by grind [vQ]) h.i.l h.i.s (by grind [vQ]) h.i.ln,E.fr.t X,λb d=>?_,fM⟩
   .rcases PL he with rfl|he
    .grind
    .exact h.i.r e he
   .rcases d with d|d|d
    .exact .inl (.inl d)
    .rcases an b d with V|V
     .exact .inl (.inr (.inl (by rw[V];rfl)))
     omega
    .exact .inl (.inr (.inr d))
  by_cases fY:i<t.es.length
  .obtain⟨b,o,e,heq,_,aw,ai,ag⟩:=af.at_ fY;cases heq;have q0:gc N f (0+i*2+0) (.U e.path):=K.cell (ag 0 _ rfl);have I:=Sp ai aa
   repeat' (first|refine gH i (0+i*2) fx fx fx fx fx fY ?_|refine fT ?_|fail)
   refine fI fx fx (sW N e.path p) ?_;rintro r ad ⟨rfl,W⟩;have R:=K.t W;cases ab:ix e.path p with
   |true=>
    rw[ab,if_pos rfl]at I;refine fA ?_;exact hy fx ⟨_,by dsimp only;omega,rfl,i+1,sub ⟨rfl,rfl,rfl,rfl⟩,⟨R,fY,I⟩,rfl⟩
   |false=>
    rw[ab,if_neg fU]at I;have ax:gc ad g 4 (.S f 0 t.es.length G):=W.cell k4;refine fA ?_;refine oQ (cells:=(hR ⟨p,(k:Int)⟩).toArray) fx fE ?_;refine fA ?_;refine nV iO fx fx fU fU (λu O E am=>?_);have D:=R.t E;have z2:=R.size;refine fA ?_;refine fI fx fx (xU u B f ad.heap.size G i t.es ⟨p,(k:Int)⟩ (h.o.e.ext D) O fy hi h0 h.i.le) ?_;rintro r y ⟨C,x,U⟩;rw[I]at C;have Q:=(h.ext D).i.k.fr x (λe=>T e.symm);obtain⟨ae,c4,rfl,_,_⟩:=C.form;refine fA ?_;refine ir Q fx fx fE fx fx (λv J F=>?_);have L:=Z u y _ 0 D C x U v J F;exact y29
  .obtain rfl:i=t.es.length:=fy;have I:t.es.length=Cq p t.es:=by rw[jP,Cq]at aa;omega
   refine fA ?_;refine oQ (cells:=(hR ⟨p,(k:Int)⟩).toArray) fx fE ?_;refine fA ?_;refine nV iO fx fx fU fU (λu O E am=>?_);have D:=K.t E;have z2:=K.size;refine fA ?_;refine fI fx fx (xU u B f N.heap.size G t.es.length t.es ⟨p,(k:Int)⟩ (h.o.e.ext D) O fy hi h0 h.i.le) ?_;rintro r y ⟨C,x,U⟩;have Y:Ow hR 2 y B 49 r (t.es.take (Cq p t.es)++⟨p,(k:Int)⟩::t.es.drop (Cq p t.es)):=by rw[<-I];exact C
   have Q:=(h.ext D).i.k.fr x (λe=>T e.symm);obtain⟨ae,c4,rfl,_,_⟩:=Y.form;refine fA ?_;refine ir Q fx fx fE fx fx (λv J F=>?_);have L:=Z u y _ 0 D Y x U v J F;exact y29
 .intro H;refine fA ?_;refine hI ?_;exact iw (H 0 w (by grind [Fr.refl])) (sub ⟨rfl,rfl,rfl,rfl⟩)
theorem Im (w:i5) (B:Nat) (n:Nd) (c:Int):rj w B ⟨gz n c,.slice none 0 0,.slice none 0 0,.slice none 0 0⟩:=⟨Ow.nil _ _ _,Ow.nil _ _ _,Ow.nil _ _ _⟩
def wX (w:i5) (B g:Nat) (m:hA) (vf ve vn:i6) (fO:ip gG) (t:fZ) (p:fL) (x:gG) (h:nJ w B g m vf ve vn fO t) (aU:im w x) (be:∀b,Vx x b->b≠g) (d:fF x.n.data<=1000000) (hc:0<=m.calls/\m.calls<=4000000000000000000) (aR:t.es.length<=900000) (a7:t.ns.length<=900000):
  fQ prog 18 #[.P g,.U p,.agg (gB x).toArray] w λr w'=>r= .I (qQ m t p x.n)/\∃aX aY aW,iY w B g vf ve vn fO w' (gj m).2.2 (mq m t p x.n) aX aY aW:=by
 refine kg func18 fx fE ?_;have a6:=h.i.k.lt;have hlen:=h.i.tr.len;obtain⟨A,c,rfl,a3,a4,_⟩:=h.i.tr.e.op gi;refine fA ?_;refine hP fx (λax aA Q bb=>?_);have aB:fW ax w.heap.size 37 (gB x).toArray:=aA;have h1:=h.ext Q;refine fA ?_;refine fI fx fx (lM ax g m vf _ A _ c h1.i.k h1.i.h h1.i.f hc h1.i.af) ?_;rintro r a0 ⟨rfl,aE,K⟩;have av:=h1.i.put K aE (iW m);have V:=(iY.ext h Q).t (iY.put h1 K av (iW m));have aJ:=aB.fr K fy;unfold mq qQ
 by_cases e:(gj m).2.1=0
 .rw [if_neg (λh=>h e),e];refine fA ?_;refine fI fx fx (tZ a0 g _ vf _ _ fO t p av) ?_;rintro r ay ⟨rfl,R⟩;have W:=V.t (iY.ext V.o R);have ah:=aJ.ext R
  by_cases I:jf t p=0
  .rw [if_neg (λh=>h I),I];refine fA ?_;refine gR (t:=37) ah fx fx ?_;refine fA ?_;have aV:im ay x:=((aU.uZ Q.fr λ_ _ h=>h).uZ K fM).uZ R.fr λ_ _ h=>h
   refine fI fx fx (nY ay x aV d) ?_;rintro r a1 ⟨rfl,aj⟩;have L:=W.t (iY.ext W.o aj);have aK:=ah.ext aj;cases a9:fG x.n with
   |false=>
    rw[if_pos rfl,if_neg fU];refine fA ?_;exact fB fx fx ⟨rfl,_,_,_,L⟩
   |true=>
   rw[if_neg fU];refine fA ?_;refine fI fx fx (Db a1 g _ vf _ _ fO t p L.o.i) ?_;rintro r D ⟨rfl,ak⟩;have E:=L.t (iY.ext L.o ak);have F:=aK.ext ak
   by_cases ae:tB t p=0
   .rw [ae,if_pos rfl];have q0:gc D w.heap.size 0 (.I x.n.kind):=F.cell 0;have q9:gc D w.heap.size 9 (.U x.n.target):=F.cell 9;have Yg:gc D w.heap.size 10 (.I x.n.major):=F.cell 10;have PG:gc D w.heap.size 11 (.I x.n.minor):=F.cell 11;obtain⟨c9,Z⟩:∃c,c=(gj m).2.2.calls:=⟨_,rfl⟩;rw[<-Z];have z5:=E.f.size;refine fA ?_;refine oQ (cells:=(gB ⟨⟨x.n.kind,0,0,0,0,[],[],0,[],x.n.target,x.n.major,x.n.minor⟩,.slice none 0 0,.slice none 0 0,.slice none 0 0⟩).toArray) fx fE ?_;refine fA ?_;refine gx (z:= .agg tH) fE (λbj aF aM bd=>?_);refine fA ?_;refine gY aF fx fx fE fx (fJ (l:=gB ⟨⟨x.n.kind,0,0,0,0,[],[],0,[],x.n.target,x.n.major,x.n.minor⟩,.slice none 0 0,.slice none 0 0,.slice none 0 0⟩) fx) (λC aG aN=>?_);have J:Ext D C:=aM.trans aN fM;have ap:=E.t (iY.ext E.o J);have aq:=ap.t (iY.ext ap.o (Fr.drew hJ C));have aL:=(F.ext J).ext (Fr.drew hJ C);have q1:gc C.drew w.heap.size 1 (.I x.n.mode):=aL.cell 1;have aH:=aG.ext (Fr.drew hJ C);refine fA ?_;refine lk [46] (λw'=>gc w' w.heap.size 1 (.I x.n.mode)) fE (by decide+kernel) q1 ?_;refine HE ?_;refine fI fx fx (ua C.drew g _ vf _ _ aq.o.i.k) ?_ fM;rintro r bk ⟨rfl,rfl⟩;rw[<-Z];refine HE ?_;refine oQ (cells:=(qV ⟨gz x.n c9,.slice none 0 0,.slice none 0 0,.slice none 0 0⟩).toArray) fx fE ?_;refine HE ?_
    refine Yd (q:=1) (vs:=qV ⟨gz x.n c9,.slice none 0 0,.slice none 0 0,.slice none 0 0⟩) (nw:=(gB ⟨gz x.n c9,.slice none 0 0,.slice none 0 0,.slice none 0 0⟩).toArray) aH fx fx fE (by show 7<=12;omega) (λu hu=>by
     simp only[qV,iu,tf,or_false]at hu
     rcases hu with rfl|rfl|rfl|rfl|rfl|rfl<;>rfl) rfl (λN aI am=>?_) (λw' S=>S.cell q1 (show ¬w.heap.size=D.heap.size by have:=F.lt;omega))
    have a8:∀b,b=g\/vf.ownBlock=some b\/JA (.slice A t.es.length c) vn fO b->b<D.heap.size:=λb d=>(E.o.gO d).2
    have ba:=aq.o.fr am fM;have bm:=J.size;have bn:C.drew.heap.size=C.heap.size:=rfl;have aO:Ext D N:=(J.t (Fr.drew hJ C)).trans am fM;have X:=E.t (iY.ext E.o aO);obtain⟨G,H,rfl,a5,_⟩:=X.o.o.n.form;have Y:=X.t (iY.ext X.o (Fr.drew hJ N));have k5:gc N.drew g 5 (.slice G fO.length H):=Y.o.i.k.cell 5;refine fA ?_;refine tY 9 [56] (λw'=>gc w' g 5 (.slice G fO.length H)) fE (by decide+kernel) k5 ?_;refine HE ?_;refine gR (t:=37) (aI.ext (Fr.drew hJ N)) fx fx ?_;refine fA ?_;refine nV mi fx fx fU fU (λad aC ai bc=>?_) (λw' he=>he.cell k5);have v:=Y.t (iY.ext Y.o ai);have bl:=v.f.size;have au:¬(Value.slice G fO.length H).ownBlock=some g:=λe=>h.i.a g (.inr (.inl e)) rfl
    refine jH (B:=B) (news:=gB ⟨gz x.n c9,.slice none 0 0,.slice none 0 0,.slice none 0 0⟩) mi fx fU fx v.o.o.n fx (gQ aC fU fx) fx (iC (Im ad 0 x.n c9).in) (by grind [maxLen]) fy (by have:=h.b;omega) (λv11 aZ a2 T aT=>?_) (λw' S=>S.cell (ai.cell k5) au);refine lB ?_;have an:Ow gB 12 aZ B 37 v11 (fO++[⟨gz x.n c9,.slice none 0 0,.slice none 0 0,.slice none 0 0⟩]):=by grind [Ow.ext1, gz]
    obtain⟨O,yE,rfl,_,_⟩:=an.form;have aD:=v.o.i.k.fr T au;refine fA ?_;refine ir aD fx fx fE fx fx (λM ag U=>?_);have aS:∀b,(Value.slice O (fO++[(⟨gz x.n c9,.slice none 0 0,.slice none 0 0,.slice none 0 0⟩:gG)]).length yE).ownBlock=some b->¬b=g:=fM;have al:Fr (Ep g (.slice A t.es.length c) (.slice G fO.length H)) ad M:=(T.mono λb _ d=> .inr (.inr d)).t (U.mono λb _ d=> .inl d);have aw:∀n∈t.ns++[gz x.n c9],n∈t.ns\/n=gz x.n c9:=fM
    have aP:iY ad B g vf (.slice A t.es.length c) (.slice G fO.length H) fO M (gj m).2.2 ⟨t.es,t.ns++[gz x.n c9]⟩ (.slice A t.es.length c) (.slice O (fO++[(⟨gz x.n c9,.slice none 0 0,.slice none 0 0,.slice none 0 0⟩:gG)]).length yE) (fO++[⟨gz x.n c9,.slice none 0 0,.slice none 0 0,.slice none 0 0⟩]):=
     ⟨v.o.step al rfl ag ((v.o.o.e.fr T λb d e=>v.o.o.e.apart v.o.o.n fU d e).fr U λb d=>h.i.a b (.inl d)) (an.fr U aS) (λy ab=>(iS.1 ab).elim (v.o.o.i y) (by grind [List.mem_singleton, Im])) (by rw[pw,h.o.m];rfl)
      (λe he=>by have:=h.i.r e he;grind) h.i.h (λn aa=>(aw n aa).elim (h.i.l n) λe=>by rw[e];exact⟨iF _,iF _,iF _⟩) (λn aa=>(aw n aa).elim (h.i.s n) λe=>by rw[e];exact iF _) fy fM,
     al,λb d=>by
      rcases d with d|d|d
      .exact .inl (.inl d)
      .exact .inl (.inr (.inl d))
      .rcases aT with az|az
       .exact .inl (.inr fM)
       grind,λy ab b d=>(iS.1 ab).elim fM λe=>by
       rw[jS.1 e]at d
       rcases d with d|d|d<;>cases d⟩
    have ar:=v.t aP;have aQ:(((fO++[(⟨gz x.n c9,.slice none 0 0,.slice none 0 0,.slice none 0 0⟩:gG)]).length:Nat):Int)-1=((t.ns.length:Nat):Int):=by rw[ib];simp only[iP,kL];omega
    have bf:gc M g 5 (.slice O (fO++[(⟨gz x.n c9,.slice none 0 0,.slice none 0 0,.slice none 0 0⟩:gG)]).length yE):=ag.cell 5;refine fA ?_;rw[aQ];refine fI fx fx (AW M B g (gj m).2.2 vf _ _ _ ⟨t.es,t.ns++[gz x.n c9]⟩ p t.ns.length ar.o fM aR) ?_;rintro r bi ⟨rfl,bh,bg,ao⟩;rw[<-Z]at ao;refine fA ?_;exact fB fx fx ⟨rfl,_,_,_,ar.t ao⟩
   .rw[if_neg ae];refine fA ?_;exact fB fx fx ⟨rfl,_,_,_,E⟩
  .rw[if_pos I,if_neg I];refine fA ?_;exact fB fx fx ⟨rfl,_,_,_,W⟩
 .rw[if_pos e,if_neg e];refine fA ?_;exact fB fx fx ⟨rfl,_,_,_,V⟩
