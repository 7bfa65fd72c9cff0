/- Parts of the proof. -/
import Derived.Test.YtecaahegomdbbaaGreatDoorRfB10b
set_option linter.all false
set_option maxRecDepth 100000
set_option maxHeartbeats 64000000
namespace Go.Proofs.YtecaahegomdbbaaGreatDoor.gp
open Go.Proofs.Tryz
open Go.RowKit
section
def Ls (w:World) (B g:Nat) (vf ve vn:Value) (fK:List gG) (y:Int×gZ×fY) (r:Value) (w':World):Prop:=r= .int .i64 y.1/\∃d f a,iS w B g vf ve vn fK w' y.2.1 y.2.2 d f a
theorem Ls.of {w a w':World} {B g:Nat} {m:gZ} {vf ve vn:Value} {fK:List gG} {S:fY} {y:Int×gZ×fY} {r:Value} (h:Ls a B g vf ve vn fK y r w') (hO:nC w B g m vf ve vn fK S) (f:Ext w a):Ls w B g vf ve vn fK y r w':=by
 obtain⟨h1,s,u,n,d⟩:=h;exact⟨h1,s,u,n,(iS.ext hO f).t d⟩
theorem Xa {t:fY} (h:lU t):t.ns.length<=t.es.length:=by
 have:=List.Nodup.length_le_of_subset (l₁:=List.range t.ns.length) (l₂:=t.es.map λe=>e.node.toNat) KH (λi hi=>by
  obtain⟨e,he,h1⟩:=h.u i (xK.1 hi)
  exact lN.2 ⟨e,he,fy⟩)
 simpa using this
theorem TS {l:List Ac} (h:og l=true):l.length<=100000:=by
 unfold og at h;simp only[iO,decide_eq_true_eq]at h;omega
theorem UI {n:Nd} (h:fH n=true) {p:hJ} (a:p∈n.data):0<=p.pos/\p.pos<=1099511627776/\p.data.length<=1000000:=by
 by_cases hk:n.kind=2
 ·obtain⟨f1,f2,f3,f4,f5,f6⟩:=(kB n).1 (jc h hk);obtain⟨g1,g2,g3⟩:=f6 p a;unfold gO at g3;have:=nR a;omega
 ·rw[←(qh (c:=0) h hk).2.2.1]at a;cases a
attribute [local irreducible] xs T
theorem He (w:World) (B g:Nat) (m:gZ) (vf ve vn:Value) (fK:List gG) (S:fY) (x:gG) (s:om) (h:nC w B g m vf ve vn fK S) (ad:lU S) (ak:ix w x) (av:∀b,Yh x b->b<B) (Y:fH x.n=true) (hc:0<=m.calls/\m.calls<=4000000000000000000):
  fL prog 70 #[.pointer (some ⟨g,0,none⟩),.agg (gz x).toArray,.agg (mV s).toArray] w (Ls w B g vf ve vn fK (ta m S x.n s)):=by
 refine kz func70 fx fF ?_;have ay:=h.b;have X:∀b,Yh x b->b≠g:=λb O=>by have:=av b O;omega
 have ax:=ad.f.g.len;have ar:S.ns.length<=900000:=by have:=Xa ad;omega
 have W:=uG Y;unfold gT at W;simp only[iO,decide_eq_true_eq]at W;obtain⟨⟨⟨⟨⟨⟨⟨_,m3⟩,m4⟩,m5⟩,m6⟩,_⟩,_⟩,m9⟩:=W;obtain⟨D,d,au,az,aA,an⟩:=ak.d.op ha;refine fA ?_;refine hD fx (λM al ao aB=>?_);refine fA ?_;refine hD fx (λu am ab aC=>?_);have C:=ao.t ab;have G:fU u w.heap.size 37 (gz x).toArray:=fU.ext al ab;have V:fU u M.heap.size 83 (mV s).toArray:=am;have F:=h.ext C;have k0:u.cell? ⟨M.heap.size,0,none⟩=some (.int .i64 s.kind):=V.cell 0;have k1:u.cell? ⟨M.heap.size,1,none⟩=some (.string (su s.path)):=V.cell 1;have k3:u.cell? ⟨M.heap.size,3,none⟩=some (.int .i64 s.n):=V.cell 3;have n1:u.cell? ⟨w.heap.size,1,none⟩=some (.int .i64 x.n.mode):=G.cell 1;have aD:u.cell? ⟨w.heap.size,2,none⟩=some (.int .i64 x.n.uid):=G.cell 2;have aE:u.cell? ⟨w.heap.size,3,none⟩=some (.int .i64 x.n.gid):=G.cell 3;have aF:u.cell? ⟨w.heap.size,4,none⟩=some (.int .i64 x.n.time):=G.cell 4;have aG:u.cell? ⟨w.heap.size,5,none⟩=some x.va:=G.cell 5;have n6:u.cell? ⟨w.heap.size,6,none⟩=some x.vc:=G.cell 6;have n7:u.cell? ⟨w.heap.size,7,none⟩=some (.int .i64 x.n.size):=G.cell 7;have n8:u.cell? ⟨w.heap.size,8,none⟩=some (.slice D x.n.data.length d):=by rw[←au];exact G.cell 8
 have Z:=ak.ext C
 by_cases E:s.kind=1∨s.kind=2
 ·have e:ta m S x.n s=(sP m S s.path x.n,(gi m).2.2,my m S s.path x.n):=by unfold ta;rw[if_pos E]
  rw[e];rcases E with h1|h1
  all_goals
   refine fA ?_;refine gM (t:=37) G fx fx ?_;refine fA ?_;refine fI fx fx (N5 u B g m vf ve vn fK S s.path x F Z X (by have:=(j2 Y).1;omega) hc fy ar) ?_;rintro r K ⟨rfl,aH,aI,J,v⟩;refine fA ?_;exact fB fx fx (Ls.of ⟨rfl,_,_,_,v⟩ h C)
 by_cases H:s.kind=3
 ·have hu:ta m S x.n s=if s.n<0∨(x.n.data.length:Int)<=s.n then(1,m,S)else(tt m S s.path (x.n.data.getD s.n.toNat default).pos (x.n.data.getD s.n.toNat default).data,(gi m).2.2,oZ m S s.path (x.n.data.getD s.n.toNat default).pos (x.n.data.getD s.n.toNat default).data):=by unfold ta;rw[if_neg E,if_pos H]
  rw[hu]
  by_cases ai:s.n<0
  ·rw[if_pos (.inl ai)];exact y31
  by_cases aj:(x.n.data.length:Int)<=s.n
  ·rw[if_pos (.inr aj)];exact y31
  rw[if_neg (λaq=>aq.elim ai aj)];obtain⟨j,af⟩:=lO (show 0<=s.n by omega);have ag:j<x.n.data.length:=fy;obtain⟨T,od,p,rfl,_,ah,_,ae⟩:=an.at_ ag;obtain⟨p1,p2,aw⟩:=UI Y (jS ah);have ap:x.n.data.getD s.n.toNat default=p:=by rw[af,jf,kv,ah];rfl
  rw[ap];have R:Ext w u.drew:=C.d;have q0:u.drew.cell? ⟨T,od+j*2+0,none⟩=some (.int .i64 p.pos):=R.cell (ae 0 _ rfl);have q1:u.drew.cell? ⟨T,od+j*2+1,none⟩=some (.string (su p.data)):=R.cell (ae 1 _ rfl);have r1:u.drew.cell? ⟨M.heap.size,1,none⟩=some (.string (su s.path)):=k1;have r3:u.drew.cell? ⟨M.heap.size,3,none⟩=some (.int .i64 s.n):=k3;have r8:u.drew.cell? ⟨w.heap.size,8,none⟩=some (.slice (some ⟨T,od,none⟩) x.n.data.length d):=n8
  repeat' (first|refine gF j (od+j*2) rfl rfl rfl af rfl ag ?_|refine fT ?_|fail)
  refine fI fx fx (JT u.drew B g m vf ve vn fK S s.path p.pos p.data (h.ext R) hc aw fy) ?_;rintro r K ⟨rfl,J,v⟩;refine fA ?_;exact fB fx fx (Ls.of ⟨rfl,_,_,_,v⟩ h R)
 by_cases I:s.kind=4
 ·have e:ta m S x.n s=(Ak m S s.path x.n.size,(gi m).2.2,sZ m S s.path x.n.size):=by unfold ta;rw[if_neg E,if_neg H,if_pos I]
  rw[e];refine fA ?_;refine fI fx fx (N9 u B g m vf ve vn fK S s.path x.n.size F hc) ?_;exact y8
 by_cases L:s.kind=6
 ·have e:ta m S x.n s=(nZ m S s.path (λ_=>0) (pI x.n.uid x.n.gid),(gi m).2.2,nr m S s.path (λ_=>0) (pI x.n.uid x.n.gid)):=by unfold ta;rw[if_neg E,if_neg H,if_neg I,if_pos L]
  rw[e];refine fA ?_;refine fI fx fx (Qv u B g m vf ve vn fK S s.path x.n.uid x.n.gid F hc) ?_;exact y8
 by_cases N:s.kind=7
 ·have e:ta m S x.n s=(nZ m S s.path (λ_=>(lW x.n.attrs).1) (sG (lW x.n.attrs).2),(gi m).2.2,nr m S s.path (λ_=>(lW x.n.attrs).1) (sG (lW x.n.attrs).2)):=by unfold ta;rw[if_neg E,if_neg H,if_neg I,if_neg L,if_pos N]
  rw[e];refine fA ?_;refine fI fx fx (Kb u B g m vf ve vn fK S s.path x.va x.n.attrs F hc Z.a (λb O=>X b (.inl O)) fy) ?_;exact y8
 by_cases Q:s.kind=8
 ·have e:ta m S x.n s=(nZ m S s.path (λ_=>(j4 x.n.acl).1) (tA (j4 x.n.acl).2),(gi m).2.2,nr m S s.path (λ_=>(j4 x.n.acl).1) (tA (j4 x.n.acl).2)):=by unfold ta;rw[if_neg E,if_neg H,if_neg I,if_neg L,if_neg N,if_pos Q]
  rw[e];refine fA ?_;refine fI fx fx (Qh u B g m vf ve vn fK S s.path x.vc x.n.acl F hc Z.c (λb O=>X b (.inr (.inl O))) (TS m9)) ?_;exact y8
 by_cases U:s.kind=9
 ·have e:ta m S x.n s=(nZ m S s.path (λ_=>0) (qT x.n.mode),(gi m).2.2,nr m S s.path (λ_=>0) (qT x.n.mode)):=by unfold ta;rw[if_neg E,if_neg H,if_neg I,if_neg L,if_neg N,if_neg Q,if_pos U]
  rw[e];refine fA ?_;refine fI fx fx (NM u B g m vf ve vn fK S s.path x.n.mode F hc) ?_;exact y8
 by_cases aa:s.kind=10
 ·have e:ta m S x.n s=(nZ m S s.path (λ_=>0) (λy=>h7 y x.n.time),(gi m).2.2,nr m S s.path (λ_=>0) (λy=>h7 y x.n.time)):=by unfold ta;rw[if_neg E,if_neg H,if_neg I,if_neg L,if_neg N,if_neg Q,if_neg U,if_pos aa]
  rw[e];refine fA ?_;refine fI fx fx (NQ u B g m vf ve vn fK S s.path x.n.time F hc) ?_;exact y8
 ·have e:ta m S x.n s=(1,m,S):=by unfold ta;rw[if_neg E,if_neg H,if_neg I,if_neg L,if_neg N,if_neg Q,if_neg U,if_neg aa]
  rw[e];exact y31
theorem RB (w:World) (B g:Nat) (m:gZ) (vf ve vn T U:Value) (fK C:List gG) (S t:fY) (s:om) (h:nC w B g m vf ve vn fK S) (N:lU S) (F:nj w T U C t) (aA:∀b,RW T U C t b->b<B) (ar:gQ t=true) (hc:0<=m.calls/\m.calls<=4000000000000000000):
  fL prog 32 #[.pointer (some ⟨g,0,none⟩),.agg #[T,U],.agg (mV s).toArray] w (Ls w B g vf ve vn fK (nq m S t s)):=by
 refine kz func32 fx fF ?_;have ab:=(hy ar).f.g;have G:=F;have hlen:=F.len;have aF:=N.f.g.len;obtain⟨A,c,rfl,aI,aK,aG⟩:=F.e.op gj;obtain⟨al,J,rfl,aJ,aL,an⟩:=F.n.op gI;refine fA ?_;refine hD fx (λx ao aq aN=>?_);refine fA ?_;refine hD fx (λH ap aa aO=>?_);have Z:=aq.t aa;have ae:fU H w.heap.size 26 #[.slice A t.es.length c,.slice al C.length J]:=fU.ext ao aa;have ad:fU H x.heap.size 83 (mV s).toArray:=ap;have k1:H.cell? ⟨x.heap.size,1,none⟩=some (.string (su s.path)):=ad.cell 1;refine fA ?_;refine gM (t:=26) ae fx fx ?_;refine fA ?_;refine fI fx fx (ka H _ _ t.es s.path (G.e.ext Z)) ?_;rintro r a ⟨rfl,L⟩;have v:=Z.t L;cases Q:fR t.es s.path with
 |none=>
  have e:nq m S t s=(1,m,S):=by unfold nq;rw[Q]
  rw[e];simp only[vt,D3];refine fA ?_;exact fB fx fx (Ls.of ⟨rfl,_,_,_,iS.ext (h.ext v) (Fr.refl _ _)⟩ h v)
 | some z=>
  obtain⟨V,ag,_,ah⟩:=hB Q;obtain⟨ak,z2⟩:=ab.inr V ag;have ai:fH (nodeAt t z)=true:=by rw[←ah];exact ab.node V ag
  rw[ah]at ak z2;obtain⟨k,rfl⟩:=lO ak;have sX:k<C.length:=fy;obtain⟨b',o',y,rfl,aH,R,_,ax⟩:=an.at_ sX;have aj:nodeAt t (k:Int)=y.n:=G.getD R;have aB:=G.i y (jS R);rw[aj]at ai;have af:=ae.ext L;have E:=ad.ext L;have am:=h.ext v;have q1:a.cell? ⟨w.heap.size,1,none⟩=some (.slice (some ⟨b',o',none⟩) C.length J):=af.cell 1;have p0:a.cell? ⟨x.heap.size,0,none⟩=some (.int .i64 s.kind):=E.cell 0;have p1:a.cell? ⟨x.heap.size,1,none⟩=some (.string (su s.path)):=E.cell 1;have p2:a.cell? ⟨x.heap.size,2,none⟩=some (.string (su s.other)):=E.cell 2;have hu:nq m S t s=if s.kind=5 then(if(fR t.es s.other).isNone then(1,m,S)else(tb m S s.path s.other,(gi m).2.2,oK m S s.path s.other))else if s.kind=11 then(ti m S s.path,(gi m).2.2,uP m S s.path)else ta m S y.n s:=by unfold nq;rw[Q];dsimp only;rw[aj]
  rw[hu];simp only[tc,Bd]
  by_cases Y:s.kind=5
  ·rw[if_pos Y];refine fA ?_;refine gM (t:=26) af fx fx ?_;refine fA ?_;refine fI fx fx (ka a _ _ t.es s.other (G.e.ext v)) ?_;rintro r I ⟨rfl,M⟩;have K:=v.t M;have X:=h.ext K;have s1:I.cell? ⟨x.heap.size,1,none⟩=some (.string (su s.path)):=M.cell p1;have s2:I.cell? ⟨x.heap.size,2,none⟩=some (.string (su s.other)):=M.cell p2;cases aM:fR t.es s.other with
   |none=>
    simp only[vt,D3,Option.isNone_none,if_true];refine fA ?_;exact fB fx fx (Ls.of ⟨rfl,_,_,_,iS.ext X (Fr.refl _ _)⟩ h K)
   |some aQ=>
    simp only[tc,Bd,Option.isNone_some];rw[if_neg fV];refine fA ?_;refine fI fx fx (NS I B g m vf ve vn fK S s.path s.other X hc fy) ?_;rintro r aE ⟨rfl,aD,aC,O⟩;refine fA ?_;exact fB fx fx (Ls.of ⟨rfl,_,_,_,O⟩ h K)
  rw[if_neg Y]
  by_cases W:s.kind=11
  ·rw[if_pos W];obtain⟨e0,ay,az,_⟩:=N.f.g.root;refine fA ?_;refine fI fx fx (B3 a B g m vf ve vn fK S s.path am hc ⟨e0,ay,az⟩) ?_;rintro r aE ⟨rfl,aD,aP,aC,O⟩;refine fA ?_;exact fB fx fx (Ls.of ⟨rfl,_,_,_,O⟩ h v)
  rw[if_neg W];have D:Ext w a.drew:=v.d;have r1:a.drew.cell? ⟨w.heap.size,1,none⟩=some (.slice (some ⟨b',o',none⟩) C.length J):=q1;refine Uw ?_;refine hL (cs:=gz y) fx fF (λj u hu=>D.cell (ax j u hu)) ?_;refine fA ?_;refine gM (t:=83) E.drew fx fx ?_;refine fA ?_;refine fI fx fx (He a.drew B g m vf ve vn fK S y s (h.ext D) N (aB.ext D) (λb aw=>aA b (.inr (.inr ⟨y,jS R,aw⟩))) ai hc) ?_;rintro r I au;obtain⟨rfl,av⟩:=au.of h D;refine fA ?_;exact fB fx fx ⟨rfl,av⟩
end
end Go.Proofs.YtecaahegomdbbaaGreatDoor.gp
