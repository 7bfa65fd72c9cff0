/- Parts of the proof. -/
import Derived.Test.YtecaahegomdbbaaGreatDoorRfB2
import Derived.Test.YtecaahegomdbbaaGreatDoorRfWt
import Derived.Test.YtecaahegomdbbaaGreatDoorRfYa
import Derived.Test.YtecaahegomdbbaaGreatDoorRfZj
set_option linter.all false
set_option maxRecDepth 100000
set_option maxHeartbeats 64000000
namespace Go.Proofs.YtecaahegomdbbaaGreatDoor.gp
open Go.Proofs.Tryz
open Go.RowKit
variable {fK:List gG} {B g:Nat} {ve vf vn:Value} {w w':World} {p:fQ} {m m':gZ}
section
def II (ve vn:Value) (fK:List gG) (b:Nat):Prop:=ve.ownBlock=some b∨vn.ownBlock=some b∨∃x∈fK,x.va.ownBlock=some b∨x.vc.ownBlock=some b∨x.vd.ownBlock=some b
theorem nj.fr {S:Nat->Prop} {w w':World} {ve vn:Value} {fK:List gG} {t:fY} (h:nj w ve vn fK t) (s:Fr S w w') (u:∀b,II ve vn fK b->¬S b):nj w' ve vn fK t:=
 ⟨h.e.fr s λb f=>u b (.inl f),h.n.fr s λb f=>u b (.inr (.inl f)),λx g=>⟨(h.i x g).a.fr s λb f=>u b (.inr (.inr ⟨x,g,.inl f⟩)),(h.i x g).c.fr s λb f=>u b (.inr (.inr ⟨x,g,.inr (.inl f)⟩)),(h.i x g).d.fr s λb f=>u b (.inr (.inr ⟨x,g,.inr (.inr f)⟩))⟩,h.m⟩
structure AX (w:World) (g:Nat) (m:gZ) (vf ve vn:Value) (fK:List gG) (t:fY):Prop where
 k:fU w g 88 (H9 m vf ve vn)
 f:Rw R6 w vf m.mQ
 tr:nj w ve vn fK t
 af:vf.ownBlock≠some g
 a:∀b,II ve vn fK b->b≠g
 r:∀e∈t.es,0<=e.node/\e.node<t.ns.length
 h:0<t.es.length
 l:∀n∈t.ns,G0 n
 s:tu t.ns
 le:t.es.length<=1000000
 ln:t.ns.length<=1000000
 lt:∀b,vf.ownBlock=some b∨II ve vn fK b->b<w.heap.size
theorem AX.ext {w w':World} {g:Nat} {m:gZ} {vf ve vn:Value} {fK:List gG} {t:fY} (h:AX w g m vf ve vn fK t) (d:Ext w w'):AX w' g m vf ve vn fK t:=⟨h.k.ext d,h.f.ext d,h.tr.ext d,h.af,h.a,h.r,h.h,h.l,h.s,h.le,h.ln,λb n=>uY (h.lt b n) d.size⟩
theorem AX.fr {S:Nat->Prop} {w w':World} {g:Nat} {m:gZ} {vf ve vn:Value} {fK:List gG} {t:fY} (h:AX w g m vf ve vn fK t) (n:Fr S w w') (u:∀b,b=g∨vf.ownBlock=some b∨II ve vn fK b->¬S b):AX w' g m vf ve vn fK t:=
 ⟨h.k.fr n (u g (.inl rfl)),h.f.fr n λb d=>u b (.inr (.inl d)),h.tr.fr n λb d=>u b (.inr (.inr d)),h.af,h.a,h.r,h.h,h.l,h.s,h.le,h.ln,λb d=>uY (h.lt b d) n.size⟩
theorem AX.put {t:fY} (h:AX w g m vf ve vn fK t) (n:Fr (· =g) w w') (hk:fU w' g 88 (H9 m' vf ve vn)) (u:m'.mQ=m.mQ):AX w' g m' vf ve vn fK t:=
 ⟨hk,by rw[u];exact h.f.fr n λb d e=>h.af (by rw[d,e]),h.tr.fr n λb d e=>h.a b d e,h.af,h.a,h.r,h.h,h.l,h.s,h.le,h.ln,λb d=>uY (h.lt b d) n.size⟩
theorem AX.off {k:Nat} {t:fY} (h:AX w g m vf ve vn fK t) (d:Fr (· =k) w w') (n:g<k) (f:∀b,vf.ownBlock=some b∨II ve vn fK b->b<k):AX w' g m vf ve vn fK t:=
 h.fr d λb a=>by
  rcases a with rfl|a
  ·show ¬_=k;omega
  ·have:=f b a;show ¬_=k;omega
theorem iP (m:gZ):(gi m).2.2.mQ=m.mQ:=by
 unfold gi;split
 ·rfl
 ·split
  ·rfl
  ·split<;>rfl
theorem oS (h:fU w g 88 (H9 m vf ve vn)):∀j u,[ve,vn][j]? =some u->w.cell? ⟨g,4+j,none⟩=some u:=by
 intro j u hu;rcases j with _|_|j
 ·injection hu with hu;subst hu;exact h.cell 4
 ·injection hu with hu;subst hu;exact h.cell 5
 ·simp at hu
theorem vR {t:fY} (d:∀e∈t.es,0<=e.node/\e.node<t.ns.length) {k:Int} (h:fR t.es p=some k):∃i:Nat,k=i/\i<t.ns.length:=by
 obtain⟨e,he,_,a⟩:=hB h;have:=d e he;rw[a]at this;exact⟨k.toNat,fy,by omega⟩
attribute [local irreducible] xs T
theorem tg (w:World) (x:gG) (L:Rw jK w x.va x.n.attrs) (hc:Rw lh w x.vc x.n.acl) (la:x.n.attrs.length<=1000000) (lc:x.n.acl.length<=1000000):fL prog 54 #[.agg (qJ x).toArray] w λr w'=>∃va vc,r= .agg (qJ ⟨x.n,va,vc,x.vd⟩).toArray/\Ow jK 2 w' w.heap.size 68 va x.n.attrs/\Ow lh 3 w' w.heap.size 70 vc x.n.acl/\Ext w w':=by
 refine gr func54 fx fF ?_;obtain⟨n,va,vc,vd⟩:=x;dsimp only at L hc la lc⊢;obtain⟨N,c1,rfl,_,_,_⟩:=L.op jN;obtain⟨O,c2,rfl,_,_,_⟩:=hc.op jZ;refine fA ?_;refine hD fx (λE X I ai=>?_);refine fA ?_;refine gy (z:= .agg #[.int .i64 0,.int .i64 0,.int .i64 0,.int .i64 0,.slice none 0 0,.slice none 0 0]) fF (λF Y y aj=>?_);have R:fU F w.heap.size 34 (qJ ⟨n,.slice N n.attrs.length c1,.slice O n.acl.length c2,vd⟩).toArray:=fU.ext X y;have k1:F.cell? ⟨w.heap.size,4,none⟩=some (.slice N n.attrs.length c1):=R.cell 4;refine fA ?_;refine jI (B:=F.heap.size) (news:=n.attrs.flatMap jK) yk fx fV fx (gD.nil _ _ _ _) fx (Row.ext L (I.t y)) (gl jN _) (yt _) (by unfold maxLen;omega) fy (gJ _) (λv1 af d ab _=>?_);have C:Ext F af:=ab.mono λ_ _ h=>by cases h
 have K:∀{a b c:World} {g:Nat},Ext a b->Fr (· =g) b c->a.heap.size<=g->Ext a c:=λh1 W ah=>h1.trans W λj ae e=>absurd ae fy
 rw[iC]at d;obtain⟨Q,d1,rfl,_,_⟩:=d.form;refine fA ?_;refine iq (fU.ext R C) fx fx fF fx fx (λG S D=>?_);have k2:G.cell? ⟨w.heap.size,5,none⟩=some (.slice O n.acl.length c2):=S.cell 5;have U:Ext w G:=K ((I.t y).t C) D (gJ _);refine fA ?_;refine jI (B:=G.heap.size) (news:=n.acl.flatMap lh) Eu fx fV fx (gD.nil _ _ _ _) fx (Row.ext hc U) (gl jZ _) (D4 _) (by unfold maxLen;omega) fy (gJ _) (λv2 ag u ad _=>?_);have f:Ext G ag:=ad.mono λ_ _ h=>by cases h
 rw[iC]at u;obtain⟨B2,d2,rfl,_,_⟩:=u.form;refine fA ?_;refine iq (fU.ext S f) fx fx fF fx fx (λV T s=>?_)
 have Z:fU V w.heap.size 34 (qJ ⟨n,.slice Q n.attrs.length d1,.slice B2 n.acl.length d2,vd⟩).toArray:=by
  simp only[iC]at T;exact T
 have al:=I.size;have z2:=y.size;have z3:=C.size;have z4:=D.size;have z5:=f.size;have am:=s.size;refine fA ?_;refine gM (t:=34) Z fx fx ?_;have H:=((((fU.ext Y C).fr D (show ¬E.heap.size=w.heap.size by omega)).ext f).fr s (show ¬E.heap.size=w.heap.size by omega));refine fA ?_;refine hd H fx fx fF fx (fJ (l:=qJ ⟨n,.slice Q n.attrs.length d1,.slice B2 n.acl.length d2,vd⟩) fx) (λak H J=>?_);have aa:Ext w V:=K (U.t f) s (gJ _);refine fA ?_;have ne:∀{w':World} {B:Nat} {e:TypeId} {z m:Nat} {v:Value} {vs:List Value},gD w' B e z v m vs->w.heap.size<B->∀b,v.ownBlock=some b->¬b=w.heap.size:=λh fW b M=>by have:=(h.gH M).1;omega
 have ne':∀{w':World} {B:Nat} {e:TypeId} {z m:Nat} {v:Value} {vs:List Value},gD w' B e z v m vs->E.heap.size<B->∀b,v.ownBlock=some b->¬b=E.heap.size:=λh fW b M=>by have:=(h.gH M).1;omega
 exact Cn fx fx H fF ⟨_,_,rfl,gD.mono (((((d.fr D (ne d fy)).ext f).fr s (ne d fy)).fr J (ne' d fy))) fy,gD.mono ((u.fr s (ne u fy)).fr J (ne' u fy)) fy,K aa J fy⟩
theorem tm (w:World) (g:Nat) (m:gZ) (vf ve vn:Value) (fK:List gG) (t:fY) (p:fQ) (h:AX w g m vf ve vn fK t):fL prog 43 #[.pointer (some ⟨g,0,none⟩),.string (su p)] w λr w'=>r= .int .i64 (ja t p)/\Ext w w':=by
 refine gK func43 fx fF ?_;have v:=h.tr;obtain⟨A,c,rfl,X,Z,W⟩:=v.e.op gj;obtain⟨E,F,rfl,Y,aa,O⟩:=v.n.op gI;have hlen:=v.len;refine fA ?_
 refine h9 (α:=Option fQ×Int×Nat) 0 fx (λx=>[(0,.pointer (some ⟨g,0,none⟩)),(5,.int .i64 x.2.1),(6,.string (su (x.1.getD []))),(7,.bool x.1.isSome)])
  (λx w'=>Ext w w'/\(∀q,x.1=some q->q.length<x.2.2)/\jT t x.2.2 x.1 x.2.1=ja t p) (λx=>x.2.2) ?_ ?_
 ·rintro⟨o,bad,f⟩ D ⟨s,I,a⟩;dsimp only at s I a⊢;have K:=h.k.ext s;have k5:D.cell? ⟨g,5,none⟩=some (.slice E fK.length F):=K.cell 5;cases o with
  |none=>
   have Q:jT t f none bad=bad:=by cases f<;>rfl
   rw[Q]at a;refine fA ?_;exact fB fx fx ⟨by rw[a],s⟩
  | some q=>
   obtain⟨f,rfl⟩:∃f',f=f'+1:=⟨f-1,by have:=I q rfl;omega⟩;have M:∀r,iL q=some r->r.length<f:=λr S=>by have h1:=Fi S;have V:=I q rfl;omega
   rw[jT]at a;simp only[tc,Bd];refine fA ?_;refine hL (cs:=[.slice A t.es.length c,.slice E fK.length F]) fx fF (oS K) ?_;refine fA ?_;refine fI fx fx (ka D _ _ t.es q (v.e.ext s)) ?_;rintro r d ⟨rfl,C⟩;have B:Ext w d:=s.t C;have ab:d.cell? ⟨g,5,none⟩=some (.slice E fK.length F):=C.cell k5;cases J:fR t.es q with
   |none=>
    rw[J]at a;dsimp only at a;simp only[vt,D3];refine fA ?_;refine fI fx fx (lM d q) ?_;rintro r U ⟨rfl,G⟩;refine fA ?_;exact gX fx ⟨_,by dsimp only;omega,rfl,(iL q,7,f),sub ⟨rfl,rfl,rfl,rfl⟩,⟨B.t G,M,a⟩,rfl⟩
   | some k=>
    obtain⟨i,rfl,hi⟩:=vR h.r J;rw[J]at a;simp only[jf]at a;obtain⟨b,o,y,rfl,_,T,_,R⟩:=O.at_ (i:=i) fy;have u:d.cell? ⟨b,o+i*12+0,none⟩=some (.int .i64 y.n.kind):=B.cell (R 0 _ rfl);have N:(t.ns.getD i default).kind=y.n.kind:=by rw[v.getD T]
    simp only[tc,Bd]
    by_cases u:(t.ns.getD i default).kind=1
    ·have hk:y.n.kind=1:=N▸u;rw[if_pos u]at a;refine Ri ?_;refine fI fx fx (lM d q) ?_;rintro r U ⟨rfl,G⟩;refine fA ?_;exact gX fx ⟨_,by dsimp only;omega,rfl,(iL q,bad,f),sub ⟨rfl,rfl,rfl,rfl⟩,⟨B.t G,M,a⟩,rfl⟩
    ·have hk:¬y.n.kind=1:=λe=>u (N.trans e)
     rw[if_neg u]at a;refine Ri ?_;exact fB fx fx ⟨by rw[a],B⟩
 ·intro H;refine fA ?_;refine fI fx fx (oa w p) ?_;rintro r D ⟨rfl,L⟩;cases hm:gU p with
  |false=>
   refine fA ?_;exact fB fx fx ⟨by unfold ja;rw[hm];rfl,L⟩
  |true=>
   refine fA ?_;refine fI fx fx (lM D p) ?_;rintro r d ⟨rfl,C⟩;refine fA ?_;refine hv ?_;exact ic (H (iL p,0,p.length+1) d ⟨L.t C,λq hq=>by have:=Fi hq;dsimp only;omega,by unfold ja;rw[hm];rfl⟩) (sub ⟨rfl,rfl,rfl,rfl⟩)
theorem mT (w:World) (g:Nat) (m:gZ) (vf ve vn:Value) (fK:List gG) (t:fY) (p:fQ) (h:AX w g m vf ve vn fK t):fL prog 53 #[.pointer (some ⟨g,0,none⟩),.string (su p)] w λr w'=>r= .tuple #[.int .i64 (hC t p).1,.int .i64 (hC t p).2]/\Ext w w':=by
 refine gK func53 fx fF ?_;have d:=h.tr;obtain⟨A,c,rfl,B,D,x⟩:=d.e.op gj;obtain⟨s,u,rfl,C,E,y⟩:=d.n.op gI;refine fA ?_;refine fI fx fx (tm w g m vf _ _ fK t p h) ?_;rintro r v ⟨rfl,a⟩;unfold hC
 by_cases h0:ja t p=0
 ·rw[if_neg (λh=>h h0),h0];refine fA ?_;refine hL (cs:=[.slice A t.es.length c,.slice s fK.length u]) fx fF (oS (h.k.ext a)) ?_;refine fA ?_;refine fI fx fx (ka v _ _ t.es p (d.e.ext a)) ?_;rintro r G ⟨rfl,f⟩;cases F:fR t.es p with
  |none=>
   simp only[vt,D3];refine fA ?_;exact ia fx fx fx ⟨rfl,a.t f⟩
  |some k=>
   simp only[tc,Bd];refine fA ?_;exact ia fx fx fx ⟨rfl,a.t f⟩
 ·rw[if_pos h0];refine fA ?_;exact ia fx fx fx ⟨rfl,a⟩
end
section
def sF (m:gZ) (t:fY) (p:fQ):Int:=if(gi m).2.1=0 then(hC t p).2 else(gi m).2.1
def nodeAt (t:fY) (k:Int):Nd:=t.ns.getD k.toNat default
def Nc:gG:=⟨default,.slice none 0 0,.slice none 0 0,.slice none 0 0⟩
theorem FC (w:World) (B:Nat):qH w B Nc:=⟨Ow.nil _ _ _,Ow.nil _ _ _,Ow.nil _ _ _⟩
theorem find_range {t:fY} (a:∀e∈t.es,0<=e.node/\e.node<t.ns.length) (h:(hC t p).2=0):∃i:Nat,(hC t p).1=i/\i<t.ns.length:=by
 grind [hC,ja,fR,absurd,vR]
attribute [local irreducible] xs T
theorem Qt (w:World) (g:Nat) (m:gZ) (vf ve vn:Value) (fK:List gG) (t:fY) (p:fQ) (h:AX w g m vf ve vn fK t) (hc:0<=m.calls/\m.calls<=4000000000000000000):
  fL prog 21 #[.pointer (some ⟨g,0,none⟩),.string (su p)] w λr w'=>∃x',r= .tuple #[.agg (gz x').toArray,.int .i64 (sF m t p)]/\qH w' w.heap.size x'/\x'.n=(if sF m t p=0 then nodeAt t (hC t p).1 else default)/\AX w' g (gi m).2.2 vf ve vn fK t/\Fr (· =g) w w':=by
 refine gK func21 fx fF ?_;have J:=h.tr;obtain⟨A,c,rfl,aT,aV,aS⟩:=J.e.op gj;obtain⟨aR,az,rfl,aU,aW,aA⟩:=J.n.op gI;have hlen:=J.len;have Y:=h.k.lt;refine fA ?_;refine gy (z:= .agg tP) fF (λaP aB ai aY=>?_);have h1:=h.ext ai;refine fA ?_;refine fI fx fx (lJ aP g m vf _ A _ c h1.k h1.h h1.f hc h1.af) ?_;rintro r ab ⟨rfl,aD,X⟩;have S:=h1.put X aD (iP m);have V:Fr (· =g) w ab:=ai.fr.t X;have an:fU ab w.heap.size 37 tP:=fU.fr aB X fy;have z2:=V.size
 by_cases e:(gi m).2.1=0
 ·have Z:sF m t p=(hC t p).2:=by unfold sF;rw[if_pos e]
  rw[Z,e];refine fA ?_;refine fI fx fx (mT ab g _ vf _ _ fK t p S) ?_;rintro r v ⟨rfl,N⟩;have M:=S.ext N;have W:=V.te N;have ao:=an.ext N
  by_cases e':(hC t p).2=0
  ·obtain⟨i,hi,aX⟩:=find_range h.r e';rw[hi,e',if_pos rfl];obtain⟨b,o,y,rfl,s,ar,_,aM⟩:=aA.at_ (i:=i) fy;have aL:b≠g:=h.a b (.inr (.inl rfl));have a0:=h.tr.i y fS;have aO:nodeAt t (i:Int)=y.n:=by unfold nodeAt;rw[jf];exact J.getD ar
   have av:=h.l y.n (jS (J.get ar));have au:=M.tr.i y fS;have k5:v.cell? ⟨g,5,none⟩=some (.slice (some ⟨b,o,none⟩) fK.length az):=M.k.cell 5;refine Ri ?_;refine hL (cs:=gz y) fx fF (λj u hu=>W.cell (aM j u hu) aL) ?_;refine fA ?_;refine gy (z:= .agg tP) fF (λaw x al aZ=>?_);refine fA ?_;refine hd x fx fx fF fx (by grind [fJ,gz,List.all_eq_true,iN]) (λQ ae am=>?_);have aG:Ext v Q:=al.trans am fS;have aj:Ext v Q:=aG
   have aN:∀j u,(qJ y)[j]? =some u->Q.cell? ⟨v.heap.size,1+j,none⟩=some u:=λj u hu=>by
    rw[ae.cell,pB];rcases j with _|_|_|_|_|_|j
    all_goals first|exact hu|simp[qJ]at hu
   refine fA ?_;refine hL (cs:=qJ y) fx fF aN ?_;have aa:=au.ext aj;refine fI fx fx (tg Q y aa.a aa.c av.a av.c) ?_;rintro r a3 ⟨va,vc,rfl,H,I,U⟩;obtain⟨K,c1,rfl,_,_⟩:=H.form;obtain⟨L,c2,rfl,_,_⟩:=I.form;have aE:=ae.ext U;refine fA ?_
   refine WG (q:=1) (vs:=qJ ⟨y.n,.slice K y.n.attrs.length c1,.slice L y.n.acl.length c2,y.vd⟩) (nw:=(gz ⟨y.n,.slice K y.n.attrs.length c1,.slice L y.n.acl.length c2,y.vd⟩).toArray) aE fx fx fF (by show 7<=12;omega) (λu hu=>by
    simp only[qJ,hX,sC,or_false]at hu
    rcases hu with rfl|rfl|rfl|rfl|rfl|rfl<;>rfl) rfl (λR ag O=>?_)
   obtain⟨ay,c3,aq,_,_,_⟩:=aa.d.op ha;have k8:R.cell? ⟨v.heap.size,8,none⟩=some (.slice ay y.n.data.length c3):=by rw[←aq];exact ag.cell 8
   have z3:=N.size;have z4:=al.size;have z5:=am.size;have a4:=U.size;have a5:=O.size;have ak:Ext v R:=(aj.t U).trans O fS;have ap:=au.d.ext ak;rw[aq]at ap;refine fA ?_;refine jI (B:=R.heap.size) (news:=y.n.data.flatMap j5) kk fx fV fx (gD.nil _ _ _ _) fx ap (gl ha _) (lV _) (by grind [G0.d,maxLen]) (by grind [G0.d]) (gJ _) (λa1 aQ G aH _=>?_);have C:Ext R aQ:=aH.mono λ_ _ h=>by cases h
   rw[iC]at G;obtain⟨ad,d3,rfl,_,_⟩:=G.form;refine fA ?_;refine iq (fU.ext ag C) fx fx fF fx fx (λax ah F=>?_)
   have aF:fU ax v.heap.size 37 (gz ⟨y.n,.slice K y.n.attrs.length c1,.slice L y.n.acl.length c2,.slice ad y.n.data.length d3⟩).toArray:=by
    simp only[iC]at ah;exact ah
   have a6:=C.size;have z9:=F.size;have T:Ext v ax:=(ak.t C).trans F fS;refine fA ?_;refine gM (t:=37) aF fx fx ?_;refine fA ?_;refine hd (ao.ext T) fx fx fF fx (fJ (l:=gz ⟨y.n,.slice K y.n.attrs.length c1,.slice L y.n.acl.length c2,.slice ad y.n.data.length d3⟩) fx) (λa2 aC D=>?_);have aI:=((((H.fr O λb s=>by have:=(H.gH s).1;omega).ext C).fr F λb s=>by have:=(H.gH s).1;omega).fr D λb s=>by have:=(H.gH s).1;omega);have aJ:=((((I.fr O λb s=>by have:=(I.gH s).1;omega).ext C).fr F λb s=>by have:=(I.gH s).1;omega).fr D λb s=>by have:=(I.gH s).1;omega);have aK:=((G.fr F λb s=>by have:=(G.gH s).1;omega).fr D λb s=>by have:=(G.gH s).1;omega);refine fA ?_;refine hP fx fx fx aC fF ⟨_,rfl,⟨aI.mono fy,aJ.mono fy,gD.mono aK fy⟩,aO.symm,?_,?_⟩
   ·exact(M.ext T).off D Y h.lt
   ·exact((W.te T).trans D fS)
  ·rw[if_neg e'];refine fA ?_;refine qv (parts:=[]) (cells:=tP) fx fF ?_;refine fA ?_;refine hd ao fx fx fF fx (fJ (l:=gz Nc) fx) (λaw x E=>?_);refine fA ?_;refine hP fx fx fx x fF ⟨Nc,rfl,FC _ _,rfl,?_,?_⟩
   ·exact M.off E Y h.lt
   ·exact(W.trans E fS)
 ·have Z:sF m t p=(gi m).2.1:=by unfold sF;rw[if_neg e]
  rw[Z,if_neg e];refine fA ?_;refine qv (parts:=[]) (cells:=tP) fx fF ?_;refine fA ?_;refine hd an fx fx fF fx (fJ (l:=gz Nc) fx) (λaw x E=>?_);refine fA ?_;refine hP fx fx fx x fF ⟨Nc,rfl,FC _ _,rfl,?_,?_⟩
  ·exact S.off E Y h.lt
  ·exact(V.trans E fS)
theorem Cm (w:World) (g:Nat) (m:gZ) (vf ve vn:Value) (fK:List gG) (t u:fY) (h:AX w g m vf ve vn fK t) (hu:hN t=some u):
  fL prog 13 #[.pointer (some ⟨g,0,none⟩)] w λr w'=>∃F G d,r= .agg #[F,G]/\Er w' w.heap.size F G d u/\Ext w w':=by
 refine gr func13 fx fF ?_;have N:=h.tr;obtain⟨A,c,rfl,ag,ai,ae⟩:=N.e.op gj;obtain⟨S,T,rfl,ah,aj,af⟩:=N.n.op gI;refine fA ?_;refine gy (z:= .agg #[.slice none 0 0,.slice none 0 0]) fF (λH U K ak=>?_);have h1:=h.ext K;refine fA ?_;refine fI fx fx (w6 H g m vf _ A _ c h1.k h1.h) ?_;rintro r Q ⟨rfl,rfl⟩;refine fA ?_;refine hL (cs:=[.slice A t.es.length c,.slice S fK.length T]) fx fF (oS h1.k) ?_;refine fA ?_;refine fI fx fx (zI H _ _ fK t h1.tr h.s h.l) ?_;rintro r Q ⟨L,M⟩;rw[hu]at M;obtain⟨F,G,d,rfl,D⟩:=M;obtain⟨I,c2,rfl,_,_⟩:=D.e.form;obtain⟨J,c3,rfl,_,_⟩:=D.n.form;refine fA ?_;refine gy (z:= .agg #[.slice none 0 0,.slice none 0 0]) fF (λam V Z al=>?_);refine fA ?_;refine hd V fx fx fF fx (fJ (l:=[.slice I u.es.length c2,.slice J d.length c3]) fx) (λR W aa=>?_);have C:Ext Q R:=Z.trans aa fS;refine fA ?_;refine gM (t:=26) W fx fx ?_;refine fA ?_;refine hd ((fU.ext U L).ext C) fx fx fF fx (fJ (l:=[.slice I u.es.length c2,.slice J d.length c3]) fx) (λad X y=>?_);have a:=D.ext C;have Y:Ext w R:=(K.t L).t C;refine fA ?_;refine Cn fx fx X fF ⟨_,_,d,rfl,?_,Y.trans y fS⟩;have ne:∀{w':World} {B:Nat} {e:TypeId} {z m:Nat} {v:Value} {vs:List Value},gD w' B e z v m vs->w.heap.size<B->∀b,v.ownBlock=some b->¬b=w.heap.size:=λh fW b E=>by have:=(h.gH E).1;omega
 have ab:Er ad H.heap.size _ _ d u:=⟨a.e.fr y (ne a.e fy),a.n.fr y (ne a.n fy),λx O=>(a.i x O).fr y λb E=>by have:=(a.i x O).f b E;omega,a.m⟩;exact ab.mono fy
theorem Aa (w:World) (g:Nat) (m:gZ) (vf ve vn:Value) (h:fU w g 88 (H9 m vf ve vn)):fL prog 11 #[.pointer (some ⟨g,0,none⟩)] w λr w'=>r= .int .i64 m.calls/\w=w':=by
 refine gr func11 fx fF ?_;have k2:w.cell? ⟨g,2,none⟩=some (.int .i64 m.calls):=h.cell 2;refine fA ?_;exact y2
theorem tC (w:World) (g:Nat) (m:gZ) (vf ve vn:Value) (h:fU w g 88 (H9 m vf ve vn)):fL prog 46 #[.pointer (some ⟨g,0,none⟩)] w λr w'=>r= .int .i64 m.calls/\w=w':=by
 refine gr func46 fx fF ?_;refine fA ?_;refine fI fx fx (Aa w g m vf ve vn h) ?_;rintro r a ⟨rfl,rfl⟩;refine fA ?_;exact y2
end
section
structure nC (w:World) (B g:Nat) (m:gZ) (vf ve vn:Value) (fK:List gG) (t:fY):Prop where
 i:AX w g m vf ve vn fK t
 o:Er w B ve vn fK t
 f:Ow R6 2 w B 149 vf m.mQ
 b:B<=g
theorem Er.lt {t:fY} (h:Er w B ve vn fK t) {b:Nat} (f:II ve vn fK b):B<=b/\b<w.heap.size:=by
 rcases f with f|f|⟨x,g,f|f|f⟩
 ·exact h.e.gH f
 ·exact h.n.gH f
 ·exact(h.i x g).a.gH f
 ·exact(h.i x g).c.gH f
 ·exact(h.i x g).d.gH f
theorem Er.fr {S:Nat->Prop} {w w':World} {B:Nat} {ve vn:Value} {fK:List gG} {t:fY} (h:Er w B ve vn fK t) (d:Fr S w w') (f:∀b,II ve vn fK b->¬S b):Er w' B ve vn fK t:=
 ⟨h.e.fr d λb a=>f b (.inl a),h.n.fr d λb a=>f b (.inr (.inl a)),λx g=>(h.i x g).fr d λb a=>f b (.inr (.inr ⟨x,g,a⟩)),h.m⟩
theorem nC.ext {w w':World} {B g:Nat} {m:gZ} {vf ve vn:Value} {fK:List gG} {t:fY} (h:nC w B g m vf ve vn fK t) (a:Ext w w'):nC w' B g m vf ve vn fK t:=⟨h.i.ext a,h.o.ext a,h.f.ext a,h.b⟩
theorem nC.fr {S:Nat->Prop} {w w':World} {B g:Nat} {m:gZ} {vf ve vn:Value} {fK:List gG} {t:fY} (h:nC w B g m vf ve vn fK t) (a:Fr S w w') (d:∀b,b=g∨vf.ownBlock=some b∨II ve vn fK b->¬S b):nC w' B g m vf ve vn fK t:=
 ⟨h.i.fr a d,h.o.fr a λb n=>d b (.inr (.inr n)),h.f.fr a λb n=>d b (.inr (.inl n)),h.b⟩
theorem nC.gH {w:World} {B g:Nat} {m:gZ} {vf ve vn:Value} {fK:List gG} {t:fY} (h:nC w B g m vf ve vn fK t) {b:Nat} (a:b=g∨vf.ownBlock=some b∨II ve vn fK b):B<=b/\b<w.heap.size:=by
 rcases a with rfl|a|a
 ·exact⟨h.b,h.i.k.lt⟩
 ·exact h.f.gH a
 ·exact h.o.lt a
theorem nC.put {t:fY} (h:nC w B g m vf ve vn fK t) (n:Fr (· =g) w w') (hi:AX w' g m' vf ve vn fK t) (s:m'.mQ=m.mQ):nC w' B g m' vf ve vn fK t:=
 ⟨hi,h.o.fr n λb d e=>h.i.a b d e,by rw[s];exact h.f.fr n λb d e=>h.i.af (by rw[d,e]),h.b⟩
def oJ (q:Int) (t:fY):Int:=if q<0∨1048576<q∨gQ t=false then 1 else if q<(gd t.ns:Int)then 10 else 0
def QN (q:Int) (fl:List (Int×Int)) (t:fY) (e:Int) (w:World) (p:Value) (w':World):Prop:=
 Ext w w'/\(e≠0/\p= .pointer none∨e=0/\∃g vf ve vn fK,p= .pointer (some ⟨g,0,none⟩)/\nC w' w.heap.size g ⟨q,fl,0,false⟩ vf ve vn fK t)
theorem Sp:xv 74 149 (.agg #[.int .i64 0,.int .i64 0]) 2 16:=M7 underlying74 fF
theorem Sg (l:List (Int×Int)):∀u∈l.flatMap R6,u.oneCell'=true:=λu hu=>by
 obtain⟨x,_,a⟩:=yu.1 hu;simp only[R6,hX,sC,or_false]at a;rcases a with rfl|rfl<;>rfl
def UW:Nd:=⟨1,493,0,0,0,[],[],0,[],[],0,0⟩
def jH:fY:=⟨[⟨[],0⟩],[UW]⟩
def Kq:gG:=⟨UW,.slice none 0 0,.slice none 0 0,.slice none 0 0⟩
theorem nU:gQ jH=true:=by decide+kernel
theorem oT:gd jH.ns=0:=rfl
def N2 (q:Int):Int:=if q<0∨1048576<q then 1 else 0
theorem UG (q:Int):oJ q jH=N2 q:=by
 unfold oJ N2;rw[nU,oT]
 by_cases h:q<0∨1048576<q
 ·rw[if_pos h,if_pos (h.elim .inl λh=> .inr (.inl h))]
 ·rw[if_neg h,if_neg (λd=>d.elim (λa=>h (.inl a)) λd=>d.elim (λa=>h (.inr a)) λa=>by cases a),if_neg (show ¬q<((0:Nat):Int)from λa=>h (.inl a))]
attribute [local irreducible] xs T
theorem Ml (w:World) (ve vn vf:Value) (fK:List gG) (t:fY) (q:Int) (fl:List (Int×Int)) (D:nj w ve vn fK t) (ae:Rw R6 w vf fl) (Z:∀n∈t.ns,G0 n) (hs:tu t.ns) (le:t.es.length<=1000000) (ln:t.ns.length<=1000000) (aL:fl.length<=1000000):
  fL prog 17 #[.agg #[ve,vn],.int .i64 q,vf] w λr w'=>∃p,r= .tuple #[p,.int .i64 (oJ q t)]/\QN q fl t (oJ q t) w p w':=by
 refine kz func17 fx fF ?_;obtain⟨A,c,rfl,aF,aH,aC⟩:=D.e.op gj;obtain⟨ak,al,rfl,aG,aI,aD⟩:=D.n.op gI;obtain⟨ay,az,rfl,aJ,aK,aE⟩:=ae.op DJ;refine fA ?_;refine hD fx (λah am F aN=>?_);have J:fU ah w.heap.size 26 #[.slice A t.es.length c,.slice ak fK.length al]:=am
 by_cases h1:q<0
 ·have he:oJ q t=1:=by unfold oJ;rw[if_pos (.inl h1)]
  rw[he];refine fA ?_;exact ia fx fx fx ⟨_,rfl,F,.inl ⟨by decide,rfl⟩⟩
 by_cases U:1048576<q
 ·have he:oJ q t=1:=by unfold oJ;rw[if_pos (.inr (.inl U))]
  rw[he];refine fA ?_;exact ia fx fx fx ⟨_,rfl,F,.inl ⟨by decide,rfl⟩⟩
 refine fA ?_;refine gM (t:=26) J fx fx ?_;refine fA ?_;refine fG fx fx (sg ah _ _ fK t (D.ext F) hs) (λr ax h=>?_);obtain⟨rfl,N⟩:=h;have L:=F.t N;cases hm:gQ t with
 |false=>
  have he:oJ q t=1:=by unfold oJ;rw[if_pos (.inr (.inr hm))]
  rw[he];refine fA ?_;exact ia fx fx fx ⟨_,rfl,L,.inl ⟨by decide,rfl⟩⟩
 | true=>
  have af:¬(q<0∨1048576<q∨gQ t=false):=by
   rintro(a|a|a)
   ·exact h1 a
   ·exact U a
   ·rw[hm]at a;cases a
  refine fA ?_;refine gM (t:=26) (fU.ext J N) fx fx ?_;refine fA ?_;refine fG fx fx (xi ax _ _ fK t (D.ext L) hs ln) (λr ai h=>?_);obtain⟨rfl,W⟩:=h;have E:=L.t W
  by_cases V:q<(gd t.ns:Int)
  ·have he:oJ q t=10:=by unfold oJ;rw[if_neg af,if_pos V]
   rw[he];refine fA ?_;exact ia fx fx fx ⟨_,rfl,E,.inl ⟨by decide,rfl⟩⟩
  have he:oJ q t=0:=by unfold oJ;rw[if_neg af,if_neg V]
  rw[he];refine fA ?_;refine gM (t:=26) ((fU.ext J N).ext W) fx fx ?_;refine fA ?_;refine fI fx fx (zI ai _ _ fK t (D.ext E) hs Z) ?_;rintro r S ⟨aq,ag⟩;rw[CE hm]at ag;obtain⟨aR,aS,m,rfl,I⟩:=ag;obtain⟨x,c2,rfl,_,_⟩:=I.e.form;obtain⟨y,c3,rfl,_,_⟩:=I.n.form;refine fA ?_;refine gy (z:= .agg #[.slice none 0 0,.slice none 0 0]) fF (λaT an ar aO=>?_);refine fA ?_;refine hd an fx fx fF fx (fJ (l:=[.slice x t.es.length c2,.slice y m.length c3]) fx) (λg K av=>?_);have G:Ext S g:=ar.trans av λj aM e=>by have:j=S.heap.size:=e;omega
  have M:Ext w g:=(E.t aq).t G;refine gz2 ?_;refine kZ [36] (λw'=>fU w' S.heap.size 26 #[.slice x t.es.length c2,.slice y m.length c3]) fF (by decide+kernel) K.drew ?_;have au:Ext w g.drew:=M.d;refine fA ?_;refine jI (B:=g.drew.heap.size) (news:=fl.flatMap R6) Sp fx fV fx (gD.nil _ _ _ _) fx (Row.ext ae au) (gl DJ _) (Sg _) (by unfold maxLen;omega) fy (gJ _) (λaQ s H R _=>?_) (λs R=>fU.fr K.drew R λh=>by cases h);have X:Ext g.drew s:=R.mono λ_ _ h=>by cases h
  rw[iC]at H;obtain⟨T,c7,rfl,_,_⟩:=H.form;have ao:=fU.ext K.drew X;have O:Ext g s:=(Fr.drew hG g).t X;refine fA ?_;refine wZ (cs:=[.slice x t.es.length c2,.slice y m.length c3]) fx fF (λw' (h:fU w' _ _ _) j u hu=>by rw[iC,h.cell,pB];exact hu) ?_;refine fA ?_;refine qv (cells:=H9 ⟨q,fl,0,false⟩ (.slice T fl.length c7) (.slice x t.es.length c2) (.slice y m.length c3)) fx (by first|rfl|kernel_rfl) ?_;refine fA ?_;refine hD fx (λaj ap C aP=>?_) (λaj C=>ao.ext C);have Q:=O.t C;have ab:Er aj ai.heap.size _ _ m t:=(I.ext G).ext Q;have aa:=H.ext C;have z3:=E.size;have aU:=M.size;have z4:=(G.t Q).size;have aW:g.drew.heap.size=g.heap.size:=rfl
  have ad:∀b,II (.slice x t.es.length c2) (.slice y m.length c3) m b->b<s.heap.size:=λb f=>by
   have:=(I.lt f).2;have aA:=(G.t O).size;omega
  have Y:∀b,(Value.slice T fl.length c7).ownBlock=some b->b<s.heap.size:=λb f=>(H.gH f).2
  have aw:=oh hm;have aV:=O.size;refine fA ?_
  refine ia fx fx fx ⟨_,rfl,(M.t Q),.inr ⟨rfl,s.heap.size,_,_,_,m,rfl,⟨⟨ap,aa.row,ab.v,λe=>by have:=Y _ e;omega,λb f e=>by have:=ad b f;omega,aw.inr,by unfold gQ at hm;simp only[iO,decide_eq_true_eq]at hm;exact hm.1.1.1.1,Z,hs,le,ln,λb f=>by
   have aB:=C.size;rcases f with f|f
   ·have:=Y b f;omega
   ·have:=ad b f;omega⟩,ab.mono fy,gD.mono aa fy,fy⟩⟩⟩
theorem AG (w:World) (vf:Value) (q:Int) (fl:List (Int×Int)) (U:Rw R6 w vf fl) (V:fl.length<=1000000):
  fL prog 8 #[.int .i64 q,vf] w λr w'=>QN q fl jH (N2 q) w r w':=by
 refine gK func8 fx fF ?_;refine fA ?_;refine qv (cells:= #[.int .i64 493,.int .i64 0,.int .i64 0,.int .i64 0,.slice none 0 0,.slice none 0 0]) fx fF ?_;refine qv (cells:=(gz Kq).toArray) fx fF ?_;refine fA ?_;refine gy (z:= .agg tP) fF (λae G M Z=>?_);refine fA ?_;refine hd G fx fx fF fx (fJ (l:=gz Kq) fx) (λd H R=>?_);have N:Ext w d:=M.trans R λj W e=>by have:j=w.heap.size:=e;omega
 refine fA ?_;refine qv (cells:=(hI ⟨[],0⟩).toArray) fx fF ?_;refine nY iZ fx fx fV fV (λy I C aa=>?_);refine fA ?_;refine gM (t:=37) (fU.ext H C) fx fx ?_;refine fA ?_;refine nY nx fx fx fV fV (λF J D ab=>?_);refine fA ?_;refine qv (cells:= #[.slice (some ⟨d.heap.size,0,none⟩) 1 1,.slice (some ⟨y.heap.size,0,none⟩) 1 1]) fx fF ?_;refine fA ?_;refine gy (z:= .agg #[.slice none 0 0,.slice none 0 0]) fF (λaf K O ad=>?_);refine fA ?_;refine hd K fx fx fF fx (fJ (l:=[.slice (some ⟨d.heap.size,0,none⟩) 1 1,.slice (some ⟨y.heap.size,0,none⟩) 1 1]) fx) (λm L S=>?_);have u:Ext F m:=O.trans S λj W e=>by have:j=F.heap.size:=e;omega
 have s:Ext w m:=((N.t C).t D).t u
 have T:nj m (.slice (some ⟨d.heap.size,0,none⟩) 1 1) (.slice (some ⟨y.heap.size,0,none⟩) 1 1) [Kq] jH:=
  ⟨gS (n:=1) ((fU.ext I D).ext u) fV rfl,gS (n:=1) (fU.ext J u) fV rfl,λx X=>by
   rw[kl.1 X];exact⟨Rw.nil _ _ fV,Rw.nil _ _ fV,Rw.nil _ _ fV⟩,rfl⟩
 refine fA ?_;refine gM (t:=26) L fx fx ?_;refine fA ?_;refine fI fx fx (Ml m _ _ vf [Kq] jH q fl T (U.ext s) (λn v=>by rw[kl.1 v];exact⟨by decide,by decide,by decide⟩) (λn v=>by rw[kl.1 v];decide) fV fV V) ?_;rintro r Y ⟨p,rfl,Q,E⟩;rw[UG]at E⊢;have B:=s.size;have key:QN q fl jH (N2 q) w p Y:=⟨s.t Q,E.imp id λ⟨a,g,vf,ve,vn,fK,b,c⟩=>⟨a,g,vf,ve,vn,fK,b,c.i,c.o.mono B,gD.mono c.f B,mn B c.b⟩⟩;refine fA ?_;exact fB fx fx key
end
section
theorem VU {P:Program} {fn:Func} {d:Value->World->Prop} {k:List It} {env:Env} {f:Nat->Env->World->Prop} (h:T P fn d k env w):T P fn d (.vH f::k) env w:=λa g=>h a g
def DG (g:Nat) (ve vn:Value) (b:Nat):Prop:=b=g∨ve.ownBlock=some b∨vn.ownBlock=some b
def NdB (x:gG) (b:Nat):Prop:=x.va.ownBlock=some b∨x.vc.ownBlock=some b∨x.vd.ownBlock=some b
structure iS (w:World) (B g:Nat) (vf ve vn:Value) (fK:List gG) (w':World) (m':gZ) (t':fY) (ve' vn':Value) (Zc:List gG):Prop where
 o:nC w' B g m' vf ve' vn' Zc t'
 f:Fr (DG g ve vn) w w'
 k:∀b,DG g ve' vn' b->DG g ve vn b∨w.heap.size<=b
 n:∀x∈Zc,∀b,NdB x b->(∃y∈fK,NdB y b)∨w.heap.size<=b
theorem iS.t {E F:World} {u C v D:Value} {m s:List gG} {m1 m2:gZ} {t1 t2:fY} (h1:iS w B g vf ve vn fK E m1 t1 u C m) (a:iS E B g vf u C m F m2 t2 v D s):iS w B g vf ve vn fK F m2 t2 v D s:=by
 have z:=h1.f.size;refine⟨a.o,h1.f.trans a.f λj J G=>?_,λb d=>?_,λx H b d=>?_⟩
 ·rcases h1.k j G with h|h
  ·exact h
  ·omega
 ·rcases a.k b d with h|h
  ·exact h1.k b h
  ·exact .inr fy
 ·rcases a.n x H b d with⟨y,I,h⟩|h
  ·exact h1.n y I b h
  ·exact .inr fy
theorem iS.put {w w':World} {B g:Nat} {m m':gZ} {vf ve vn:Value} {fK:List gG} {t:fY} (h:nC w B g m vf ve vn fK t) (d:Fr (· =g) w w') (hi:AX w' g m' vf ve vn fK t) (f:m'.mQ=m.mQ):iS w B g vf ve vn fK w' m' t ve vn fK:=
 ⟨h.put d hi f,d.mono λ_ _ a=> .inl a,λ_ a=> .inl a,λx n _ a=> .inl ⟨x,n,a⟩⟩
theorem iS.ext {w w':World} {B g:Nat} {m:gZ} {vf ve vn:Value} {fK:List gG} {t:fY} (h:nC w B g m vf ve vn fK t) (d:Ext w w'):iS w B g vf ve vn fK w' m t ve vn fK:=
 ⟨h.ext d,d.fr,λ_ a=> .inl a,λx f _ a=> .inl ⟨x,f,a⟩⟩
theorem nC.of {t:fY} (hk:fU w g 88 (H9 m vf ve vn)) (s:Er w B ve vn fK t) (u:Ow R6 2 w B 149 vf m.mQ) (f:B<=g)
  (E:∀e∈t.es,0<=e.node/\e.node<t.ns.length) (h0:0<t.es.length) (D:∀n∈t.ns,G0 n) (hs:tu t.ns) (le:t.es.length<=1000000) (ln:t.ns.length<=1000000):nC w B g m vf ve vn fK t:=by
 have ne:∀{α:Type} {C:α->List Value} {z:Nat} {e:TypeId} {v:Value} {l:List α},Ow C z w B e v l->e≠88->∀b,v.ownBlock=some b->b≠g:=λh1 he b f=>by
  obtain⟨F,hm⟩:=h1.x3 f;exact hm.Br hk he
 refine⟨⟨hk,u.rw,s.v,λe=>ne u fV g e fx,λb f=>?_,E,h0,D,hs,le,ln,λb f=>f.elim (λh=>(u.gH h).2) λh=>(s.lt h).2⟩,s,u,f⟩;rcases f with f|f|⟨x,y,f|f|f⟩
 ·exact ne s.e fV b f
 ·exact ne s.n fV b f
 ·exact ne (s.i x y).a fV b f
 ·exact ne (s.i x y).c fV b f
 ·exact ne (s.i x y).d fV b f
theorem nC.step {G H:Value} {E:List gG} {t:fY} {y:List En} {u:List Nd} (h:nC w B g m vf ve vn fK t) (D:Fr (DG g ve vn) w w') (hm:m'.mQ=m.mQ)
  (hk:fU w' g 88 (H9 m' vf G H)) (he:Ow hI 2 w' B 49 G y) (N:Ow gz 12 w' B 37 H E) (hi:∀x∈E,qH w B x) (O:E.map (·.n)=u)
  (Q:∀e∈y,0<=e.node/\e.node<u.length) (h0:0<y.length) (M:∀n∈u,G0 n) (hs:tu u) (le:y.length<=1000000) (ln:u.length<=1000000):nC w' B g m' vf G H E ⟨y,u⟩:=by
 have ne:∀{α:Type} {I:α->List Value} {z:Nat} {e:TypeId} {v:Value} {l:List α},Ow I z w B e v l->e≠88->e≠49->e≠37->∀b,v.ownBlock=some b->¬DG g ve vn b:=λh1 J K L b F C=>by
  obtain⟨R,hm⟩:=h1.x3 F;rcases C with rfl|C|C
  ·exact hm.Br h.i.k J fx
  ·exact h1.apart h.o.e K F C
  ·exact h1.apart h.o.n L F C
 exact nC.of hk ⟨he,N,λx s=>⟨(hi x s).a.fr D (ne (hi x s).a fV fV fV),(hi x s).c.fr D (ne (hi x s).c fV fV fV),(hi x s).d.fr D (ne (hi x s).d fV fV fV)⟩,O⟩ (by rw[hm];exact h.f.fr D (ne h.f fV fV fV)) h.b Q h0 M hs le ln
theorem OW (x:gG) (c:Int):gz ⟨h7 x.n c,x.va,x.vc,x.vd⟩=(gz x).set 4 (.int .i64 c):=rfl
theorem QI {es:List En} {k:Int} {e:En} (h:e∈oH es p k):e=⟨p,k⟩∨e∈es:=by
 unfold oH at h;rcases iK.1 h with h|h
 ·exact .inr (BU h)
 ·rcases hX.1 h with h|h
  ·exact .inl h
  ·exact .inr (U5 h)
theorem uX (es:List En) (p:fQ) (k:Int):(oH es p k).length=es.length+1:=by
 unfold oH;have:=Q6 p es;rw[hQ,iA,kt,lH];omega
theorem PQ {es:List En} {i:Nat} {e:En} (h:es.drop i=e::es.drop (i+1)) (hi:i+B9 p (es.drop i)=B9 p es):if ie e.path p=true then i+1+B9 p (es.drop (i+1))=B9 p es else i=B9 p es:=by
 rw[h,B9]at hi;split
 ·rename_i a;rw[if_pos a]at hi;omega
 ·rename_i a;rw[if_neg a]at hi;omega
attribute [local irreducible] xs T
theorem Db (w:World) (g:Nat) (m:gZ) (vf ve vn:Value) (fK:List gG) (t:fY) (p:fQ) (h:AX w g m vf ve vn fK t):fL prog 45 #[.pointer (some ⟨g,0,none⟩),.string (su p)] w λr w'=>r= .int .i64 (sQ t p)/\Ext w w':=by
 refine gK func45 fx fF ?_;have d:=h.tr;obtain⟨A,c,rfl,y,C,v⟩:=d.e.op gj;obtain⟨f,s,rfl,B,D,x⟩:=d.n.op gI;unfold sQ;refine fA ?_;refine hL (cs:=[.slice A t.es.length c,.slice f fK.length s]) fx fF (oS h.k) ?_;refine fA ?_;refine fI fx fx (ka w _ _ t.es p d.e) ?_;rintro r u ⟨rfl,a⟩;have k4:u.cell? ⟨g,4,none⟩=some (.slice A t.es.length c):=(h.k.ext a).cell 4;cases E:fR t.es p with
 |some k=>
  simp only[tc,Bd];exact y5
 |none=>
  simp only[vt,D3]
  by_cases h1:100<=t.es.length
  ·rw[if_neg fV,if_pos h1];exact y5
  ·rw[if_neg fV,if_neg h1];exact y5
theorem tT (w:World) (B g:Nat) (m:gZ) (vf ve vn:Value) (fK:List gG) (t:fY) (p:fQ) (h:nC w B g m vf ve vn fK t):fL prog 95 #[.pointer (some ⟨g,0,none⟩),.string (su p)] w λr w'=>r= .tuple #[]/\∃aa,iS w B g vf ve vn fK w' m (kT t p m.calls) ve vn aa:=by
 refine gK func95 fx fF ?_;have O:=h.i.tr;have hlen:=O.len;refine fA ?_;refine fI fx fx (lM w p) ?_;rintro r ab ⟨rfl,K⟩;unfold vv;cases N:iL p with
 |none=>
  have E:kT t p m.calls=t:=by unfold kT tl;rw[N]
  rw[E];simp only[vt,D3];refine fA ?_;exact F8 fx ⟨rfl,fK,iS.ext h K⟩
 | some q=>
  simp only[tc,Bd];have h1:=h.ext K;refine fA ?_;refine hL (cs:=[ve,vn]) fx fF (oS h1.i.k) ?_;refine fA ?_;refine fI fx fx (ka ab _ _ t.es q h1.i.tr.e) ?_;rintro r H ⟨rfl,V⟩;have J:Ext w H:=K.t V;cases M:fR t.es q with
  |none=>
   have E:kT t p m.calls=t:=by unfold kT tl;rw[N];dsimp only;rw[M]
   rw[E];simp only[vt,D3];refine fA ?_;exact lX fx ⟨rfl,fK,iS.ext h J⟩
  | some k=>
   obtain⟨i,rfl,hi⟩:=vR h.i.r M;have Z:i<fK.length:=fy;obtain⟨f,cN,rfl,ae,af,ad,_,_⟩:=gD.go h.o.n fy;obtain⟨x,F⟩:∃x,fK[i]? =some x:=⟨_,kp Z⟩;have u:=h.ext J.d;have k5:H.drew.cell? ⟨g,5,none⟩=some (.slice (some ⟨f,0,none⟩) fK.length cN):=u.i.k.cell 5;have T:f≠g:=h.i.a f (.inr (.inl rfl));simp only[tc,Bd];refine fA ?_;refine kZ [29] (λw'=>w'.cell? ⟨g,5,none⟩=some (.slice (some ⟨f,0,none⟩) fK.length cN)) fF (by decide+kernel) k5 ?_;refine FQ ?_;refine fI fx fx (tC H.drew g m vf _ _ u.i.k) ?_ (λv w' h=>by rw[←h.2];exact k5);rintro r ag ⟨rfl,rfl⟩;refine PI ?_;refine WM gI i 4 u.o.n fx fx fy fy fF fx F (OW x m.calls) (λR X L=>?_) (λw' W=>W.cell k5 (show ¬g=f from λe=>T e.symm));have S:Fr (DG g ve (.slice (some ⟨f,0,none⟩) fK.length cN)) H.drew R:=L.mono λb _ C=> .inr (.inr (by have:b=f:=C;rw[this];rfl))
   have Q:=u.o.i x (jS F)
   have E:kT t p m.calls=⟨t.es,t.ns.set i (h7 x.n m.calls)⟩:=by
    unfold kT tl;rw[N];dsimp only;rw[M];dsimp only;rw[jf,O.getD F]
   have U:∀n∈t.ns.set i (h7 x.n m.calls),n∈t.ns∨n=h7 x.n m.calls:=λn D=>AB D
   have I:x.n∈t.ns:=jS (O.get F)
   have key:nC R B g m vf ve (.slice (some ⟨f,0,none⟩) fK.length cN) (fK.set i ⟨h7 x.n m.calls,x.va,x.vc,x.vd⟩) ⟨t.es,t.ns.set i (h7 x.n m.calls)⟩:=
    u.step S rfl (u.i.k.fr L (λe=>T e.symm)) (u.o.e.fr L λb C e=>u.o.e.apart u.o.n fV C (by have:b=f:=e;rw[this];rfl)) X
     (λy G=>(AB G).elim (u.o.i y) λe=>by rw[e];exact⟨Q.a,Q.c,Q.d⟩) (by rw[qu,h.o.m]) (by rw[mo];exact h.i.r) h.i.h
     (λn D=>(U n D).elim (h.i.l n) λe=>by rw[e];exact⟨(h.i.l _ I).a,(h.i.l _ I).c,(h.i.l _ I).d⟩) (λn D=>(U n D).elim (h.i.s n) λe=>by rw[e];exact(show fE x.n.data<=1000000 from h.i.s _ I)) h.i.le (by rw[mo];exact h.i.ln)
   have Y:iS w B g vf ve (.slice (some ⟨f,0,none⟩) fK.length cN) fK R m (kT t p m.calls) ve (.slice (some ⟨f,0,none⟩) fK.length cN) (fK.set i ⟨h7 x.n m.calls,x.va,x.vc,x.vd⟩):=by
    rw[E];exact⟨key,(show Ext w H.drew from J.d).fr.t S,λ_ C=> .inl C,λy G b C=> .inl ((AB G).elim (λG=>⟨y,G,C⟩) λe=>⟨x,jS F,by rw[e]at C;exact C⟩)⟩
   refine fA ?_;exact lX fx ⟨rfl,_,Y⟩
theorem Ah (w:World) (B g:Nat) (m:gZ) (vf ve vn:Value) (fK:List gG) (t:fY) (p:fQ) (k:Nat) (h:nC w B g m vf ve vn fK t) (hk:k<t.ns.length) (ay:t.es.length<=900000):fL prog 47 #[.pointer (some ⟨g,0,none⟩),.string (su p),.int .i64 (k:Int)] w λr w'=>r= .tuple #[]/\∃ar N,iS w B g vf ve vn fK w' m (pV t p k m.calls) ar vn N:=by
 refine kz func47 fx fF ?_;have h0:=h.i.h;obtain⟨f,I,rfl,aw,ax,av,_,_⟩:=gD.go h.o.e fy;obtain⟨_,_,e0,_,_,ai⟩:=h.o.e.rw.op gj;injection e0 with e0 _ _
 subst e0;have hlen:=h.i.tr.len;refine h9 (α:=Nat) 0 fx (λi=>[(0,.pointer (some ⟨g,0,none⟩)),(1,.string (su p)),(2,.int .i64 (k:Int)),(6,.int .i64 (i:Int))]) (λi w'=>Ext w w'/\i<=t.es.length/\i+B9 p (t.es.drop i)=B9 p t.es) (λi=>t.es.length-i) ?_ ?_
 ·rintro i Q ⟨L,hi,ad⟩;have h1:=h.ext L;have k4:Q.cell? ⟨g,4,none⟩=some (.slice (some ⟨f,0,none⟩) t.es.length I):=h1.i.k.cell 4;have V:f≠g:=h.i.a f (.inl rfl)
  have ab:∀(u C:World) (v3:Value) (gv:Nat),Ext w u->Ow hI 2 C B 49 v3 (t.es.take (B9 p t.es)++⟨p,(k:Int)⟩::t.es.drop (B9 p t.es))->Fr (· =f) u C->(∀b,v3.ownBlock=some b->b=f∨u.heap.size<=b)->∀v,fU v g 88 (H9 m vf v3 vn)->Fr (· =g) C v->iS w B g vf (.slice (some ⟨f,0,none⟩) t.es.length I) vn fK v m ⟨oH t.es p k,t.ns⟩ v3 vn fK:=λu C v3 gv F D y aq v K G=>by
   have O:=h.ext F;have z3:=F.size;have Z:Fr (DG g (.slice (some ⟨f,0,none⟩) t.es.length I) vn) u v:=(y.mono λb _ d=> .inr (.inl (by have:b=f:=d;rw[this];rfl))).t (G.mono λb _ d=> .inl d)
   have am:∀b,v3.ownBlock=some b->¬b=g:=λb d=>by
    obtain⟨cs,ak⟩:=D.x3 d;exact ak.Br (O.i.k.fr y (λe=>V e.symm)) fV
   have ao:∀b,vn.ownBlock=some b->¬b=f:=λb d e=>h.o.n.apart h.o.e fV d (by rw[e];rfl)
   have an:∀b,vn.ownBlock=some b->¬b=g:=λb d=>h.i.a b (.inr (.inl d))
   refine⟨O.step Z fx K (D.fr G am) ((O.o.n.fr y ao).fr G an) O.o.i h.o.m (λe he=>?_) (by rw[uX];omega) h.i.l h.i.s (by rw[uX];omega) h.i.ln,F.fr.t Z,λb d=>?_,λx af _ d=> .inl ⟨x,af,d⟩⟩
   ·rcases QI he with rfl|he
    ·exact⟨Int.natCast_nonneg _,by dsimp only;omega⟩
    ·exact h.i.r e he
   ·rcases d with d|d|d
    ·exact .inl (.inl d)
    ·rcases aq b d with X|X
     ·exact .inl (.inr (.inl (by rw[X];rfl)))
     ·exact .inr fy
    ·exact .inl (.inr (.inr d))
  by_cases fW:i<t.es.length
  ·obtain⟨b,o,e,heq,_,af,al,aj⟩:=ai.at_ fW;cases heq;have q0:Q.cell? ⟨f,0+i*2+0,none⟩=some (.string (su e.path)):=L.cell (aj 0 _ rfl);have J:=PQ al ad
   repeat' (first|refine gF i (0+i*2) rfl rfl rfl rfl rfl fW ?_|refine fT ?_|fail)
   refine fI fx fx (sA Q e.path p) ?_;rintro r ag ⟨rfl,Y⟩;have T:=L.t Y;cases ae:ie e.path p with
   |true=>
    rw[ae,if_pos rfl]at J;refine fA ?_;exact gX fx ⟨_,by dsimp only;omega,rfl,i+1,sub ⟨rfl,rfl,rfl,rfl⟩,⟨T,fW,J⟩,rfl⟩
   |false=>
    rw[ae,if_neg fV]at J;have az:ag.cell? ⟨g,4,none⟩=some (.slice (some ⟨f,0,none⟩) t.es.length I):=Y.cell k4;refine fA ?_;refine qv (cells:=(hI ⟨p,(k:Int)⟩).toArray) fx fF ?_;refine fA ?_;refine nY iZ fx fx fV fV (λu R F ap=>?_);have E:=T.t F;have z2:=T.size;refine fA ?_;refine fI fx fx (xq u B f ag.heap.size I i t.es ⟨p,(k:Int)⟩ (h.o.e.ext E) R fy hi h0 h.i.le) ?_;rintro r C ⟨D,y,W⟩;rw[J]at D;have S:=(h.ext E).i.k.fr y (λe=>V e.symm);obtain⟨ah,c4,rfl,_,_⟩:=D.form;refine fA ?_;refine iq S fx fx fF fx fx (λv K G=>?_);have M:=ab u C _ 0 E D y W v K G;exact y29
  ·obtain rfl:i=t.es.length:=fy;have J:t.es.length=B9 p t.es:=by rw[jJ,B9]at ad;omega
   refine fA ?_;refine qv (cells:=(hI ⟨p,(k:Int)⟩).toArray) fx fF ?_;refine fA ?_;refine nY iZ fx fx fV fV (λu R F ap=>?_);have E:=L.t F;have z2:=L.size;refine fA ?_;refine fI fx fx (xq u B f Q.heap.size I t.es.length t.es ⟨p,(k:Int)⟩ (h.o.e.ext E) R fy hi h0 h.i.le) ?_;rintro r C ⟨D,y,W⟩;have aa:Ow hI 2 C B 49 r (t.es.take (B9 p t.es)++⟨p,(k:Int)⟩::t.es.drop (B9 p t.es)):=by rw[←J];exact D
   have S:=(h.ext E).i.k.fr y (λe=>V e.symm);obtain⟨ah,c4,rfl,_,_⟩:=aa.form;refine fA ?_;refine iq S fx fx fF fx fx (λv K G=>?_);have M:=ab u C _ 0 E aa y W v K G;exact y29
 ·intro H;refine fA ?_;refine hv ?_;exact ic (H 0 w ⟨Fr.refl _ _,iy _,by rw[vU];omega⟩) (sub ⟨rfl,rfl,rfl,rfl⟩)
theorem Ha (w:World) (B:Nat) (n:Nd) (c:Int):qH w B ⟨iD n c,.slice none 0 0,.slice none 0 0,.slice none 0 0⟩:=⟨Ow.nil _ _ _,Ow.nil _ _ _,Ow.nil _ _ _⟩
theorem N5 (w:World) (B g:Nat) (m:gZ) (vf ve vn:Value) (fK:List gG) (t:fY) (p:fQ) (x:gG) (h:nC w B g m vf ve vn fK t) (aZ:ix w x) (a1:∀b,Yh x b->b≠g) (d:fE x.n.data<=1000000) (hc:0<=m.calls/\m.calls<=4000000000000000000) (aV:t.es.length<=900000) (bc:t.ns.length<=900000):
  fL prog 18 #[.pointer (some ⟨g,0,none⟩),.string (su p),.agg (gz x).toArray] w λr w'=>r= .int .i64 (sP m t p x.n)/\∃a3 a4 a2,iS w B g vf ve vn fK w' (gi m).2.2 (my m t p x.n) a3 a4 a2:=by
 refine kz func18 fx fF ?_;have bb:=h.i.k.lt;have hlen:=h.i.tr.len;obtain⟨A,c,rfl,a8,a9,_⟩:=h.i.tr.e.op gj;refine fA ?_;refine hD fx (λaA aC U bf=>?_);have aD:fU aA w.heap.size 37 (gz x).toArray:=aC;have h1:=h.ext U;refine fA ?_;refine fI fx fx (lJ aA g m vf _ A _ c h1.i.k h1.i.h h1.i.f hc h1.i.af) ?_;rintro r a6 ⟨rfl,aF,N⟩;have ay:=h1.i.put N aF (iP m);have aa:=(iS.ext h U).t (iS.put h1 N ay (iP m));have aK:=aD.fr N (show ¬w.heap.size=g by omega);unfold my sP
 by_cases e:(gi m).2.1=0
 ·rw [if_neg (λh=>h e),e];refine fA ?_;refine fI fx fx (tm a6 g _ vf _ _ fK t p ay) ?_;rintro r aB ⟨rfl,V⟩;have ab:=aa.t (iS.ext aa.o V);have al:=aK.ext V
  by_cases L:ja t p=0
  ·rw [if_neg (λh=>h L),L];refine fA ?_;refine gM (t:=37) al fx fx ?_;refine fA ?_;have a0:ix aB x:=((aZ.A4 U.fr λ_ _ h=>h).A4 N λb d e=>a1 b d e).A4 V.fr λ_ _ h=>h
   refine fI fx fx (nL aB x a0 d) ?_;rintro r a7 ⟨rfl,an⟩;have O:=ab.t (iS.ext ab.o an);have aL:=al.ext an;cases bd:fH x.n with
   |false=>
    rw[if_pos rfl,if_neg fV];refine fA ?_;exact fB fx fx ⟨rfl,_,_,_,O⟩
   |true=>
   rw[if_neg fV];refine fA ?_;refine fI fx fx (Db a7 g _ vf _ _ fK t p O.o.i) ?_;rintro r C ⟨rfl,ao⟩;have F:=O.t (iS.ext O.o ao);have G:=aL.ext ao
   by_cases ai:sQ t p=0
   ·rw [ai,if_pos rfl];have q0:C.cell? ⟨w.heap.size,0,none⟩=some (.int .i64 x.n.kind):=G.cell 0;have q9:C.cell? ⟨w.heap.size,9,none⟩=some (.string (su x.n.target)):=G.cell 9;have W3:C.cell? ⟨w.heap.size,10,none⟩=some (.int .i64 x.n.major):=G.cell 10;have RL:C.cell? ⟨w.heap.size,11,none⟩=some (.int .i64 x.n.minor):=G.cell 11;obtain⟨c9,ag⟩:∃c,c=(gi m).2.2.calls:=⟨_,rfl⟩;rw[←ag];have z5:=F.f.size;refine fA ?_;refine qv (cells:=(gz ⟨⟨x.n.kind,0,0,0,0,[],[],0,[],x.n.target,x.n.major,x.n.minor⟩,.slice none 0 0,.slice none 0 0,.slice none 0 0⟩).toArray) fx fF ?_;refine fA ?_;refine gy (z:= .agg tP) fF (λbm aG aN bh=>?_);refine fA ?_;refine hd aG fx fx fF fx (fJ (l:=gz ⟨⟨x.n.kind,0,0,0,0,[],[],0,[],x.n.target,x.n.major,x.n.minor⟩,.slice none 0 0,.slice none 0 0,.slice none 0 0⟩) fx) (λE aH aO=>?_);have M:Ext C E:=aN.trans aO λj aT e=>by have:j=C.heap.size:=e;omega
    have au:=F.t (iS.ext F.o M);have av:=au.t (iS.ext au.o (Fr.drew hG E));have aM:=(G.ext M).ext (Fr.drew hG E);have q1:E.drew.cell? ⟨w.heap.size,1,none⟩=some (.int .i64 x.n.mode):=aM.cell 1;have aI:=aH.ext (Fr.drew hG E);refine fA ?_;refine kZ [46] (λw'=>w'.cell? ⟨w.heap.size,1,none⟩=some (.int .i64 x.n.mode)) fF (by decide+kernel) q1 ?_;refine FQ ?_;refine fI fx fx (tC E.drew g _ vf _ _ av.o.i.k) ?_ (λv w' h=>by rw[←h.2];exact q1);rintro r bn ⟨rfl,rfl⟩;rw[←ag];refine FQ ?_;refine qv (cells:=(qJ ⟨iD x.n c9,.slice none 0 0,.slice none 0 0,.slice none 0 0⟩).toArray) fx fF ?_;refine FQ ?_
    refine WG (q:=1) (vs:=qJ ⟨iD x.n c9,.slice none 0 0,.slice none 0 0,.slice none 0 0⟩) (nw:=(gz ⟨iD x.n c9,.slice none 0 0,.slice none 0 0,.slice none 0 0⟩).toArray) aI fx fx fF (by show 7<=12;omega) (λu hu=>by
     simp only[qJ,hX,sC,or_false]at hu
     rcases hu with rfl|rfl|rfl|rfl|rfl|rfl<;>rfl) rfl (λR aJ aq=>?_) (λw' W=>W.cell q1 (show ¬w.heap.size=C.heap.size by have:=G.lt;omega))
    have aW:∀b,b=g∨vf.ownBlock=some b∨II (.slice A t.es.length c) vn fK b->b<C.heap.size:=λb d=>(F.o.gH d).2
    have be:=av.o.fr aq λb d=>by have:=aW b d;show ¬b=C.heap.size;omega
    have bp:=M.size;have bq:E.drew.heap.size=E.heap.size:=rfl;have aP:Ext C R:=(M.t (Fr.drew hG E)).trans aq λj aT e=>by have:j=C.heap.size:=e;omega
    have ad:=F.t (iS.ext F.o aP);obtain⟨H,I,rfl,ba,_⟩:=ad.o.o.n.form;have ae:=ad.t (iS.ext ad.o (Fr.drew hG R));have k5:R.drew.cell? ⟨g,5,none⟩=some (.slice H fK.length I):=ae.o.i.k.cell 5;refine fA ?_;refine wC 9 [56] (λw'=>w'.cell? ⟨g,5,none⟩=some (.slice H fK.length I)) fF (by decide+kernel) k5 ?_;refine FQ ?_;refine gM (t:=37) (aJ.ext (Fr.drew hG R)) fx fx ?_;refine fA ?_;refine nY nx fx fx fV fV (λah aE am bg=>?_) (λw' he=>he.cell k5);have D:=ae.t (iS.ext ae.o am);have bo:=D.f.size;have ax:¬(Value.slice H fK.length I).ownBlock=some g:=λe=>h.i.a g (.inr (.inl e)) rfl
    refine jI (B:=B) (news:=gz ⟨iD x.n c9,.slice none 0 0,.slice none 0 0,.slice none 0 0⟩) nx fx fV fx D.o.o.n fx (gS aE fV fx) fx (iN (Ha ah 0 x.n c9).in) (by unfold maxLen;omega) fy (by have:=h.b;omega) (λv11 a5 aQ X aY=>?_) (λw' W=>W.cell (am.cell k5) ax);refine lC ?_;have Z:Ow gz 12 a5 B 37 v11 (fK++[⟨iD x.n c9,.slice none 0 0,.slice none 0 0,.slice none 0 0⟩]):=Ow.ext1 (l':=([⟨iD x.n c9,.slice none 0 0,.slice none 0 0,.slice none 0 0⟩]:List gG)) (by simpa using aQ);obtain⟨S,xS,rfl,_,_⟩:=Z.form;have aj:=D.o.i.k.fr X ax;refine fA ?_;refine iq aj fx fx fF fx fx (λQ ak Y=>?_)
    have aX:∀b,(Value.slice S (fK++[(⟨iD x.n c9,.slice none 0 0,.slice none 0 0,.slice none 0 0⟩:gG)]).length xS).ownBlock=some b->¬b=g:=λb d=>by
     obtain⟨cs,aS⟩:=Z.x3 d;exact aS.Br aj fV
    have ap:Fr (DG g (.slice A t.es.length c) (.slice H fK.length I)) ah Q:=(X.mono λb _ d=> .inr (.inr d)).t (Y.mono λb _ d=> .inl d);have az:∀n∈t.ns++[iD x.n c9],n∈t.ns∨n=iD x.n c9:=λn J=>(iK.1 J).imp id kl.1
    have aR:iS ah B g vf (.slice A t.es.length c) (.slice H fK.length I) fK Q (gi m).2.2 ⟨t.es,t.ns++[iD x.n c9]⟩ (.slice A t.es.length c) (.slice S (fK++[(⟨iD x.n c9,.slice none 0 0,.slice none 0 0,.slice none 0 0⟩:gG)]).length xS) (fK++[⟨iD x.n c9,.slice none 0 0,.slice none 0 0,.slice none 0 0⟩]):=
     ⟨D.o.step ap rfl ak ((D.o.o.e.fr X λb d e=>D.o.o.e.apart D.o.o.n fV d e).fr Y λb d=>h.i.a b (.inl d)) (Z.fr Y aX) (λy K=>(iK.1 K).elim (D.o.o.i y) λe=>by rw[kl.1 e];exact Ha _ _ _ _) (by rw[pE,h.o.m];rfl)
      (λe he=>by have:=h.i.r e he;rw[hQ];simp only[iA,kh];omega) h.i.h (λn J=>(az n J).elim (h.i.l n) λe=>by rw[e];exact⟨iy _,iy _,iy _⟩) (λn J=>(az n J).elim (h.i.s n) λe=>by rw[e];exact iy _) fy (by rw[hQ];simp only[iA,kh];omega),
     ap,λb d=>by
      rcases d with d|d|d
      ·exact .inl (.inl d)
      ·exact .inl (.inr (.inl d))
      ·rcases aY with T|T
       ·exact .inl (.inr (.inr (by rw[←T];exact d)))
       ·rw[T]at d;injection d with d;exact .inr fy,λy K b d=>(iK.1 K).elim (λK=> .inl ⟨y,K,d⟩) λe=>by
       rw[kl.1 e]at d
       rcases d with d|d|d<;>cases d⟩
    have aw:=D.t aR;have aU:(((fK++[(⟨iD x.n c9,.slice none 0 0,.slice none 0 0,.slice none 0 0⟩:gG)]).length:Nat):Int)-1=((t.ns.length:Nat):Int):=by rw[hQ];simp only[iA,kh];omega
    have bi:Q.cell? ⟨g,5,none⟩=some (.slice S (fK++[(⟨iD x.n c9,.slice none 0 0,.slice none 0 0,.slice none 0 0⟩:gG)]).length xS):=ak.cell 5;refine fA ?_;rw[aU];refine fI fx fx (Ah Q B g (gi m).2.2 vf _ _ _ ⟨t.es,t.ns++[iD x.n c9]⟩ p t.ns.length aw.o (by dsimp only;rw[hQ];simp only[iA,kh];omega) aV) ?_;rintro r bl ⟨rfl,bk,bj,ar⟩;rw[←ag]at ar;refine fA ?_;exact fB fx fx ⟨rfl,_,_,_,aw.t ar⟩
   ·rw[if_neg ai];refine fA ?_;exact fB fx fx ⟨rfl,_,_,_,F⟩
  ·rw[if_pos L,if_neg L];refine fA ?_;exact fB fx fx ⟨rfl,_,_,_,ab⟩
 ·rw[if_pos e,if_neg e];refine fA ?_;exact fB fx fx ⟨rfl,_,_,_,aa⟩
end
end Go.Proofs.YtecaahegomdbbaaGreatDoor.gp
