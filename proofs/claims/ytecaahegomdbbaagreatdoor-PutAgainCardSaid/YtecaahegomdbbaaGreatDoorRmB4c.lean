/- Parts of the proof. -/
import Derived.Test.YtecaahegomdbbaaGreatDoorRmB4b
set_option linter.all false
set_option maxRecDepth 99999
set_option maxHeartbeats 0
namespace Go.Proofs.YtecaahegomdbbaaGreatDoor.gr
open Go.Proofs.Tryz
open Go.RowKit
section
attribute [local irreducible] xs T
def abr (n m:Nd):Prop:=n.mode=m.mode/\n.uid=m.uid/\n.gid=m.gid/\n.time=m.time/\n.attrs=m.attrs/\n.acl=m.acl
def abk {n m:Nd} (h0:n.kind=m.kind) (hm:abr n m) (h1:n.size=m.size) (g:n.data=m.data) (h3:n.target=m.target) (t:n.major=m.major) (u:n.minor=m.minor):n=m:=by
 obtain⟨d,a2,a3,a4,a5,f⟩:=hm;obtain⟨⟩:=n;obtain⟨⟩:=m
 simp_all
def A6 (w:i5) (x y:gG) (I:im w x) (J:im w y):fQ prog 148 #[.agg (qV x).toArray,.agg (qV y).toArray] w λr w'=>∃s,r= .U s/\(s=[]↔abr x.n y.n)/\Ext w w':=by
 refine gP func148 fx fE ?_;refine fA ?_;refine hP fx (λm L N W=>?_);refine fA ?_;refine hP fx (λd M G X=>?_);have f:=N.t G;have u:fW d w.heap.size 34 (qV x).toArray:=L.ext G;have v:fW d m.heap.size 34 (qV y).toArray:=M;have a0:gc d w.heap.size 0 (.I x.n.mode):=u.cell 0;have O:gc d w.heap.size 1 (.I x.n.uid):=u.cell 1;have a2:gc d w.heap.size 2 (.I x.n.gid):=u.cell 2;have a3:gc d w.heap.size 3 (.I x.n.time):=u.cell 3;have a4:gc d w.heap.size 4 x.va:=u.cell 4;have Q:gc d m.heap.size 0 (.I y.n.mode):=v.cell 0;have R:gc d m.heap.size 1 (.I y.n.uid):=v.cell 1;have S:gc d m.heap.size 2 (.I y.n.gid):=v.cell 2;have T:gc d m.heap.size 3 (.I y.n.time):=v.cell 3;have U:gc d m.heap.size 4 y.va:=v.cell 4
 by_cases e0:x.n.mode=y.n.mode
 case neg=>
  refine fA ?_;exact fB fx fx ⟨[109,111,100,101],rfl,⟨λh=>(by cases h),λh=>absurd h.1 e0⟩,f⟩
 by_cases D:x.n.uid=y.n.uid
 case neg=>
  refine fA ?_;exact fB fx fx ⟨[117,105,100],rfl,⟨λh=>(by cases h),λh=>absurd h.2.1 D⟩,f⟩
 by_cases E:x.n.gid=y.n.gid
 case neg=>
  refine fA ?_;exact fB fx fx ⟨[103,105,100],rfl,⟨λh=>(by cases h),λh=>absurd h.2.2.1 E⟩,f⟩
 by_cases F:x.n.time=y.n.time
 case neg=>
  refine fA ?_;exact fB fx fx ⟨[116,105,109,101],rfl,⟨λh=>(by cases h),λh=>absurd h.2.2.2.1 F⟩,f⟩
 refine fA ?_;refine fH fx fx (KQ d x.va y.va x.n.attrs y.n.attrs (I.a.ext f) (J.a.ext f)) (λr C h3=>?_);obtain⟨rfl,g⟩:=h3
 by_cases e4:x.n.attrs=y.n.attrs
 case neg=>
  rw[decide_eq_false e4];refine fA ?_;exact fB fx fx ⟨[97,116,116,114,115],rfl,⟨λh=>(by cases h),λh=>absurd h.2.2.2.2.1 e4⟩,f.t g⟩
 rw[decide_eq_true e4];have a5:gc C w.heap.size 5 x.vc:=(u.ext g).cell 5;have V:gc C m.heap.size 5 y.vc:=(v.ext g).cell 5;refine fA ?_;refine fH fx fx (OV C x.vc y.vc x.n.acl y.n.acl (I.c.ext (f.t g)) (J.c.ext (f.t g))) (λr Y K=>?_);obtain⟨rfl,H⟩:=K
 by_cases B:x.n.acl=y.n.acl
 case neg=>
  rw[decide_eq_false B];refine fA ?_;exact fB fx fx ⟨[97,99,108],rfl,⟨λh=>(by cases h),λh=>absurd h.2.2.2.2.2 B⟩,f.t (g.t H)⟩
 rw[decide_eq_true B];refine fA ?_;exact fB fx fx ⟨[],rfl,⟨λ_=>⟨e0,D,E,F,e4,B⟩,λ_=>rfl⟩,f.t (g.t H)⟩
def J2 (w:i5) (x y:gG) (T:im w x) (U:im w y):fQ prog 83 #[.agg (gB x).toArray,.agg (gB y).toArray] w λr w'=>∃s,r= .U s/\(s=[]↔x.n=y.n)/\Ext w w':=by
 refine gP func83 fx fE ?_;refine fA ?_;refine hP fx (λf W Y am=>?_);refine fA ?_;refine hP fx (λg X S an=>?_);have F:=Y.t S;have G:fW g w.heap.size 37 (gB x).toArray:=W.ext S;have J:fW g f.heap.size 37 (gB y).toArray:=X;have a0:gc g w.heap.size 0 (.I x.n.kind):=G.cell 0;have ag:gc g f.heap.size 0 (.I y.n.kind):=J.cell 0;have Z:∀j u,(qV x)[j]? =some u->g.cell? ⟨w.heap.size,0+1+j,none⟩=some u:=λj u hu=>by rw[iM,G.cell];exact Eg hu
 have aa:∀j u,(qV y)[j]? =some u->g.cell? ⟨f.heap.size,0+1+j,none⟩=some u:=λj u hu=>by rw[iM,J.cell];exact Eg hu
 by_cases e0:x.n.kind=y.n.kind
 case neg=>
  refine fA ?_;exact fB fx fx ⟨[107,105,110,100],rfl,⟨λh=>(by cases h),λh=>absurd (by rw[h]) e0⟩,F⟩
 refine fA ?_;refine hV (cs:=qV x) fx fx Z ?_;refine fA ?_;refine hV (cs:=qV y) fx fx aa ?_;refine fH fx fx (A6 g x y (T.ext F) (U.ext F)) (λr D h3=>?_);obtain⟨s,rfl,hs,M⟩:=h3;have B:=F.t M
 by_cases v:s=[]
 case neg=>
  repeat' (first|refine gk (op:= .neq) (b:=[]) (r:=true) fx fx (by simp[hG,v]) ?_|refine fT ?_|fail)
  exact fB fx fx ⟨s,rfl,⟨λh=>absurd h v,λh=>absurd (hs.2 (by rw[h];exact⟨rfl,rfl,rfl,rfl,rfl,rfl⟩)) v⟩,B⟩
 have hm:=hs.1 v;subst v;have H:=G.ext M;have K:=J.ext M;have ae:gc D w.heap.size 7 (.I x.n.size):=H.cell 7;have aj:gc D f.heap.size 7 (.I y.n.size):=K.cell 7;have af:gc D w.heap.size 8 x.vd:=H.cell 8;have ak:gc D f.heap.size 8 y.vd:=K.cell 8
 by_cases O:x.n.size=y.n.size
 case neg=>
  repeat' (first|refine gk (op:= .neq) (b:=[]) (r:=false) fx fx fx ?_|refine fT ?_|fail)
  exact fB fx fx ⟨[115,105,122,101],rfl,⟨λh=>(by cases h),λh=>absurd (by rw[h]) O⟩,B⟩
 repeat' (first|refine gk (op:= .neq) (b:=[]) (r:=false) fx fx fx ?_|refine fT ?_|fail)
 refine fH fx fx (NG D x.vd y.vd x.n.data y.n.data (T.d.ext B) (U.d.ext B)) (λr m V=>?_);obtain⟨rfl,N⟩:=V;have C:=B.t N
 by_cases E:x.n.data=y.n.data
 case neg=>
  rw[decide_eq_false E];refine fA ?_;exact fB fx fx ⟨[100,97,116,97],rfl,⟨λh=>(by cases h),λh=>absurd (by rw[h]) E⟩,C⟩
 rw[decide_eq_true E];have I:=H.ext N;have L:=K.ext N;have a9:gc m w.heap.size 9 (.U x.n.target):=I.cell 9;have al:gc m f.heap.size 9 (.U y.n.target):=L.cell 9;have ab:gc m w.heap.size 10 (.I x.n.major):=I.cell 10;have ah:gc m f.heap.size 10 (.I y.n.major):=L.cell 10;have ad:gc m w.heap.size 11 (.I x.n.minor):=I.cell 11;have ai:gc m f.heap.size 11 (.I y.n.minor):=L.cell 11
 by_cases e4:x.n.target=y.n.target
 case neg=>
  repeat' (first|refine gk (op:= .neq) (r:=true) fx fx (by simp[hG,e4]) ?_|refine fT ?_|fail)
  exact fB fx fx ⟨[116,97,114,103,101,116],rfl,⟨λh=>(by cases h),λh=>absurd (by rw[h]) e4⟩,C⟩
 by_cases Q:x.n.major=y.n.major
 case neg=>
  refine XW ?_;exact fB fx fx ⟨[100,101,118,105,99,101],rfl,⟨λh=>(by cases h),λh=>absurd (by rw[h]) Q⟩,C⟩
 by_cases R:x.n.minor=y.n.minor
 case neg=>
  refine XW ?_;exact fB fx fx ⟨[100,101,118,105,99,101],rfl,⟨λh=>(by cases h),λh=>absurd (by rw[h]) R⟩,C⟩
 refine XW ?_;exact fB fx fx ⟨[],rfl,⟨λ_=>abk e0 hm O E e4 Q R,λ_=>rfl⟩,C⟩
def J1 (w:i5) (x y:gG) (E:im w x) (F:im w y):fQ prog 35 #[.agg (gB x).toArray,.agg (gB y).toArray] w λr w'=>r= .bool (decide (x.n=y.n))/\Ext w w':=by
 refine gP func35 fx fE ?_;refine fA ?_;refine hP fx (λG B D H=>?_);refine fA ?_;refine hP fx (λf C g I=>?_);have d:=D.t g;have u:fW f w.heap.size 37 (gB x).toArray:=B.ext g;have v:fW f G.heap.size 37 (gB y).toArray:=C;refine fA ?_;refine gR (t:=37) u fx fx ?_;refine fA ?_;refine gR (t:=37) v fx fx ?_;refine fA ?_;refine fH fx fx (J2 f x y (E.ext d) (F.ext d)) (λr J h3=>?_);obtain⟨s,rfl,hs,m⟩:=h3
 by_cases e:s=[]
 .repeat' (first|refine gk (op:= .eql) (b:=[]) (r:=true) fx fx (by simp[hG,e]) ?_|refine fT ?_|fail)
  exact fB fx fx ⟨by rw[decide_eq_true (hs.1 e)],d.t m⟩
 .repeat' (first|refine gk (op:= .eql) (b:=[]) (r:=false) fx fx (by simp[hG,e]) ?_|refine fT ?_|fail)
  exact fB fx fx ⟨by rw[decide_eq_false λh=>e (hs.2 h)],d.t m⟩
