/- Parts of the proof. -/
import Derived.Test.YtecaahegomdbbaaGreatDoorRmB10b
set_option linter.all false
set_option maxRecDepth 99999
set_option maxHeartbeats 0
namespace Go.Proofs.YtecaahegomdbbaaGreatDoor.gr
open Go.Proofs.Tryz
open Go.RowKit
section
def Lp (w:i5) (B g:Nat) (vf ve vn:i6) (fO:ip gG) (y:Int×hA×fZ) (r:i6) (w':i5):Prop:=r= .I y.1/\∃f m d,iY w B g vf ve vn fO w' y.2.1 y.2.2 f m d
def Lp.of {w d w':i5} {B g:Nat} {m:hA} {vf ve vn:i6} {fO:ip gG} {S:fZ} {y:Int×hA×fZ} {r:i6} (h:Lp d B g vf ve vn fO y r w') (hO:nJ w B g m vf ve vn fO S) (n:Ext w d):Lp w B g vf ve vn fO y r w':=by
 obtain⟨h1,v,x,u,f⟩:=h;exact⟨h1,v,x,u,(iY.ext hO n).t f⟩
def Yq {t:fZ} (h:kY t):t.ns.length<=t.es.length:=by
 have:=List.Nodup.length_le_of_subset (l₁:=List.range t.ns.length) (l₂:=t.es.map λe=>e.node.toNat) Dx (λi hi=>by
  obtain⟨e,he,h1⟩:=h.u i (x2.1 hi)
  exact lp.2 ⟨e,he,fy⟩)
 simpa using this
def Uo {l:ip Ac} (h:om l=true):l.length<=100000:=by
 unfold om at h;simp only[iU,decide_eq_true_eq]at h;omega
def Ut {n:Nd} (h:fG n=true) {p:hT} (d:p∈n.data):0<=p.pos/\p.pos<=1099511627776/\p.data.length<=1000000:=by
 by_cases hk:n.kind=2
 .obtain⟨f1,f2,f3,f4,f5,f6⟩:=(kH n).1 (iX h hk);obtain⟨g1,g2,g3⟩:=f6 p d;unfold gU at g3;have:=oa d;omega
 .rw[<-(vq (c:=0) h hk).2.2.1]at d;cases d
attribute [local irreducible] xs T
def FK (w:i5) (B g:Nat) (m:hA) (vf ve vn:i6) (fO:ip gG) (S:fZ) (x:gG) (s:oY) (h:nJ w B g m vf ve vn fO S) (ab:kY S) (aj:im w x) (au:∀b,Vx x b->b<B) (X:fG x.n=true) (hc:0<=m.calls/\m.calls<=4000000000000000000):
  fQ prog 70 #[.P g,.agg (gB x).toArray,.agg (ny s).toArray] w (Lp w B g vf ve vn fO (uy m S x.n s)):=by
 refine kg func70 fx fE ?_;have ay:=h.b;have W:∀b,Vx x b->b≠g:=λb N=>by have:=au b N;omega
 have ax:=ab.f.g.len;have aq:S.ns.length<=900000:=by have:=Yq ab;omega
 have V:=vP X;unfold hd at V;simp only[iU,decide_eq_true_eq]at V;obtain⟨⟨⟨⟨⟨⟨⟨_,m3⟩,m4⟩,m5⟩,m6⟩,_⟩,_⟩,m9⟩:=V;obtain⟨D,d,ar,az,aA,am⟩:=aj.d.op hB;refine fA ?_;refine hP fx (λL ak an aB=>?_);refine fA ?_;refine hP fx (λu al aa aC=>?_);have C:=an.t aa;have G:fW u w.heap.size 37 (gB x).toArray:=fW.ext ak aa;have U:fW u L.heap.size 83 (ny s).toArray:=al;have F:=h.ext C;have k0:gc u L.heap.size 0 (.I s.kind):=U.cell 0;have k1:gc u L.heap.size 1 (.U s.path):=U.cell 1;have k3:gc u L.heap.size 3 (.I s.n):=U.cell 3;have n1:gc u w.heap.size 1 (.I x.n.mode):=G.cell 1;have aD:gc u w.heap.size 2 (.I x.n.uid):=G.cell 2;have aE:gc u w.heap.size 3 (.I x.n.gid):=G.cell 3;have aF:gc u w.heap.size 4 (.I x.n.time):=G.cell 4;have aG:gc u w.heap.size 5 x.va:=G.cell 5;have n6:gc u w.heap.size 6 x.vc:=G.cell 6;have aH:gc u w.heap.size 7 (.I x.n.size):=G.cell 7;have av:u.cell? ⟨w.heap.size,8,none⟩=some (.slice D x.n.data.length d):=by rw[<-ar];exact G.cell 8
 have Y:=aj.ext C
 by_cases E:s.kind=1\/s.kind=2
 .have e:uy m S x.n s=(qQ m S s.path x.n,(gj m).2.2,mq m S s.path x.n):=by unfold uy;rw[if_pos E]
  rw[e];rcases E with h1|h1
  all_goals
   refine fA ?_;refine gR (t:=37) G fx fx ?_;refine fA ?_;refine fI fx fx (wX u B g m vf ve vn fO S s.path x F Y W (by have:=(js X).1;omega) hc fy aq) ?_;rintro r J ⟨rfl,aI,aJ,I,v⟩;refine fA ?_;exact fB fx fx (Lp.of ⟨rfl,_,_,_,v⟩ h C)
 by_cases h3:s.kind=3
 .have hu:uy m S x.n s=if s.n<0\/(x.n.data.length:Int)<=s.n then(1,m,S)else(qh m S s.path (x.n.data.getD s.n.toNat default).pos (x.n.data.getD s.n.toNat default).data,(gj m).2.2,oE m S s.path (x.n.data.getD s.n.toNat default).pos (x.n.data.getD s.n.toNat default).data):=by unfold uy;rw[if_neg E,if_pos h3]
  rw[hu]
  by_cases ah:s.n<0
  .rw[if_pos (.inl ah)];exact y32
  by_cases ai:(x.n.data.length:Int)<=s.n
  .rw[if_pos (.inr ai)];exact y32
  rw[if_neg (λap=>ap.elim ah ai)];obtain⟨j,ae⟩:=lZ (show 0<=s.n by omega);have af:j<x.n.data.length:=fy;obtain⟨R,od,p,rfl,_,ag,_,ad⟩:=am.at_ af;obtain⟨p1,p2,aw⟩:=Ut X (jT ag);have ao:x.n.data.getD s.n.toNat default=p:=by rw[ae,je,kW,ag];rfl
  rw[ao];have Q:Ext w u.drew:=C.d;have q0:gc u.drew R (od+j*2+0) (.I p.pos):=Q.cell (ad 0 _ rfl);have q1:gc u.drew R (od+j*2+1) (.U p.data):=Q.cell (ad 1 _ rfl);have r1:gc u.drew L.heap.size 1 (.U s.path):=k1;have r3:gc u.drew L.heap.size 3 (.I s.n):=k3;have r8:gc u.drew w.heap.size 8 (.S R od x.n.data.length d):=av
  repeat' (first|refine gH j (od+j*2) fx fx fx ae fx af ?_|refine fT ?_|fail)
  refine fI fx fx (Af u.drew B g m vf ve vn fO S s.path p.pos p.data (h.ext Q) hc aw fy) ?_;rintro r J ⟨rfl,I,v⟩;refine fA ?_;exact fB fx fx (Lp.of ⟨rfl,_,_,_,v⟩ h Q)
 by_cases H:s.kind=4
 .have e:uy m S x.n s=(AQ m S s.path x.n.size,(gj m).2.2,wo m S s.path x.n.size):=by unfold uy;rw[if_neg E,if_neg h3,if_pos H]
  rw[e];refine fA ?_;refine fI fx fx (Og u B g m vf ve vn fO S s.path x.n.size F hc) ?_;exact y7
 by_cases K:s.kind=6
 .have e:uy m S x.n s=(nr m S s.path (λ_=>0) (pX x.n.uid x.n.gid),(gj m).2.2,nL m S s.path (λ_=>0) (pX x.n.uid x.n.gid)):=by unfold uy;rw[if_neg E,if_neg h3,if_neg H,if_pos K]
  rw[e];refine fA ?_;refine fI fx fx (QB u B g m vf ve vn fO S s.path x.n.uid x.n.gid F hc) ?_;exact y7
 by_cases M:s.kind=7
 .have e:uy m S x.n s=(nr m S s.path (λ_=>(mz x.n.attrs).1) (tv (mz x.n.attrs).2),(gj m).2.2,nL m S s.path (λ_=>(mz x.n.attrs).1) (tv (mz x.n.attrs).2)):=by unfold uy;rw[if_neg E,if_neg h3,if_neg H,if_neg K,if_pos M]
  rw[e];refine fA ?_;refine fI fx fx (Jq u B g m vf ve vn fO S s.path x.va x.n.attrs F hc Y.a (λb N=>W b (.inl N)) fy) ?_;exact y7
 by_cases O:s.kind=8
 .have e:uy m S x.n s=(nr m S s.path (λ_=>(j6 x.n.acl).1) (tR (j6 x.n.acl).2),(gj m).2.2,nL m S s.path (λ_=>(j6 x.n.acl).1) (tR (j6 x.n.acl).2)):=by unfold uy;rw[if_neg E,if_neg h3,if_neg H,if_neg K,if_neg M,if_pos O]
  rw[e];refine fA ?_;refine fI fx fx (QE u B g m vf ve vn fO S s.path x.vc x.n.acl F hc Y.c (λb N=>W b (.inr (.inl N))) (Uo m9)) ?_;exact y7
 by_cases T:s.kind=9
 .have e:uy m S x.n s=(nr m S s.path (λ_=>0) (rF x.n.mode),(gj m).2.2,nL m S s.path (λ_=>0) (rF x.n.mode)):=by unfold uy;rw[if_neg E,if_neg h3,if_neg H,if_neg K,if_neg M,if_neg O,if_pos T]
  rw[e];refine fA ?_;refine fI fx fx (NO u B g m vf ve vn fO S s.path x.n.mode F hc) ?_;exact y7
 by_cases Z:s.kind=10
 .have e:uy m S x.n s=(nr m S s.path (λ_=>0) (λy=>gA y x.n.time),(gj m).2.2,nL m S s.path (λ_=>0) (λy=>gA y x.n.time)):=by unfold uy;rw[if_neg E,if_neg h3,if_neg H,if_neg K,if_neg M,if_neg O,if_neg T,if_pos Z]
  rw[e];refine fA ?_;refine fI fx fx (Du u B g m vf ve vn fO S s.path x.n.time F hc) ?_;exact y7
 .have e:uy m S x.n s=(1,m,S):=by unfold uy;rw[if_neg E,if_neg h3,if_neg H,if_neg K,if_neg M,if_neg O,if_neg T,if_neg Z]
  rw[e];exact y32
def SE (w:i5) (B g:Nat) (m:hA) (vf ve vn U V:i6) (fO D:ip gG) (S t:fZ) (s:oY) (h:nJ w B g m vf ve vn fO S) (O:kY S) (G:mE w U V D t) (aA:∀b,Mx U V D t b->b<B) (ar:gM t=true) (hc:0<=m.calls/\m.calls<=4000000000000000000):
  fQ prog 32 #[.P g,.agg #[U,V],.agg (ny s).toArray] w (Lp w B g vf ve vn fO (n3 m S t s)):=by
 refine kg func32 fx fE ?_;have ad:=(hv ar).f.g;have H:=G;have hlen:=G.len;have aF:=O.f.g.len;obtain⟨A,c,rfl,aI,aK,aG⟩:=G.e.op gi;obtain⟨am,K,rfl,aJ,aL,an⟩:=G.n.op gw;refine fA ?_;refine hP fx (λC ao aq aN=>?_);refine fA ?_;refine hP fx (λI ap ab aO=>?_);have aa:=aq.t ab;have af:fW I w.heap.size 26 #[.slice A t.es.length c,.slice am D.length K]:=fW.ext ao ab;have ae:fW I C.heap.size 83 (ny s).toArray:=ap;have k1:gc I C.heap.size 1 (.U s.path):=ae.cell 1;refine fA ?_;refine gR (t:=26) af fx fx ?_;refine fA ?_;refine fI fx fx (kk I _ _ t.es s.path (H.e.ext aa)) ?_;rintro r v ⟨rfl,M⟩;have x:=aa.t M;cases R:fK t.es s.path with
 |none=>
  have e:n3 m S t s=(1,m,S):=by unfold n3;rw[R]
  rw[e];simp only[tx,BW];refine fA ?_;exact fB fx fx (Lp.of ⟨rfl,_,_,_,iY.ext (h.ext x) (Fr.refl _ _)⟩ h x)
 | some z=>
  obtain⟨W,ah,_,ai⟩:=gT R;obtain⟨al,z2⟩:=ad.inr W ah;have aj:fG (nodeAt t z)=true:=by rw[<-ai];exact ad.node W ah
  rw[ai]at al z2;obtain⟨k,rfl⟩:=lZ al;have pA:k<D.length:=fy;obtain⟨b',o',y,rfl,aH,T,_,ax⟩:=an.at_ pA;have ak:nodeAt t (k:Int)=y.n:=H.getD T;have aB:=H.i y (jT T);rw[ak]at aj;have ag:=af.ext M;have F:=ae.ext M;have h3:=h.ext x;have q1:gc v w.heap.size 1 (.S b' o' D.length K):=ag.cell 1;have p0:gc v C.heap.size 0 (.I s.kind):=F.cell 0;have p1:gc v C.heap.size 1 (.U s.path):=F.cell 1;have p2:gc v C.heap.size 2 (.U s.other):=F.cell 2;have hu:n3 m S t s=if s.kind=5 then(if(fK t.es s.other).isNone then(1,m,S)else(tJ m S s.path s.other,(gj m).2.2,pW m S s.path s.other))else if s.kind=11 then(pJ m S s.path,(gj m).2.2,nM m S s.path)else uy m S y.n s:=by unfold n3;rw[R];dsimp only;rw[ak]
  rw[hu];simp only[Bl,AN]
  by_cases Z:s.kind=5
  .rw[if_pos Z];refine fA ?_;refine gR (t:=26) ag fx fx ?_;refine fA ?_;refine fI fx fx (kk v _ _ t.es s.other (H.e.ext x)) ?_;rintro r J ⟨rfl,N⟩;have L:=x.t N;have Y:=h.ext L;have s1:gc J C.heap.size 1 (.U s.path):=N.cell p1;have s2:gc J C.heap.size 2 (.U s.other):=N.cell p2;cases aM:fK t.es s.other with
   |none=>
    simp only[tx,BW,Option.isNone_none,if_true];refine fA ?_;exact fB fx fx (Lp.of ⟨rfl,_,_,_,iY.ext Y (Fr.refl _ _)⟩ h L)
   |some aQ=>
    simp only[Bl,AN,Option.isNone_some];rw[if_neg fU];refine fA ?_;refine fI fx fx (OL J B g m vf ve vn fO S s.path s.other Y hc fy) ?_;rintro r aE ⟨rfl,aD,aC,Q⟩;refine fA ?_;exact fB fx fx (Lp.of ⟨rfl,_,_,_,Q⟩ h L)
  rw[if_neg Z]
  by_cases X:s.kind=11
  .rw[if_pos X];obtain⟨e0,ay,az,_⟩:=O.f.g.root;refine fA ?_;refine fI fx fx (CL v B g m vf ve vn fO S s.path h3 hc ⟨e0,ay,az⟩) ?_;rintro r aE ⟨rfl,aD,aP,aC,Q⟩;refine fA ?_;exact fB fx fx (Lp.of ⟨rfl,_,_,_,Q⟩ h x)
  rw[if_neg X];have E:Ext w v.drew:=x.d;have r1:gc v.drew w.heap.size 1 (.S b' o' D.length K):=q1;refine E8 ?_;refine hV (cs:=gB y) fx fE (λj u hu=>E.cell (ax j u hu)) ?_;refine fA ?_;refine gR (t:=83) F.drew fx fx ?_;refine fA ?_;refine fI fx fx (FK v.drew B g m vf ve vn fO S y s (h.ext E) O (aB.ext E) (λb aw=>aA b (.inr (.inr ⟨y,jT T,aw⟩))) aj hc) ?_;rintro r J au;obtain⟨rfl,av⟩:=au.of h E;refine fA ?_;exact fB fx fx ⟨rfl,av⟩
