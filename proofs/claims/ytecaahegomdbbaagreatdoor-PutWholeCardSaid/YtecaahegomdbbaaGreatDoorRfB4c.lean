/- Parts of the proof. -/
import Derived.Test.YtecaahegomdbbaaGreatDoorRfB4b
set_option linter.all false
set_option maxRecDepth 100000
set_option maxHeartbeats 64000000
namespace Go.Proofs.YtecaahegomdbbaaGreatDoor.gp
open Go.Proofs.Tryz
open Go.RowKit
section
attribute [local irreducible] xs T
def Zx (n m:Nd):Prop:=n.mode=m.mode/\n.uid=m.uid/\n.gid=m.gid/\n.time=m.time/\n.attrs=m.attrs/\n.acl=m.acl
theorem YM {n m:Nd} (h0:n.kind=m.kind) (hm:Zx n m) (h1:n.size=m.size) (f:n.data=m.data) (g:n.target=m.target) (s:n.major=m.major) (t:n.minor=m.minor):n=m:=by
 obtain⟨a,a2,a3,a4,a5,d⟩:=hm;obtain⟨⟩:=n;obtain⟨⟩:=m
 simp_all
theorem yL (w:World) (x y:gG) (I:ix w x) (J:ix w y):fL prog 148 #[.agg (qJ x).toArray,.agg (qJ y).toArray] w λr w'=>∃s,r= .string (su s)/\(s=[]↔Zx x.n y.n)/\Ext w w':=by
 refine gK func148 fx fF ?_;refine fA ?_;refine hD fx (λm M O X=>?_);refine fA ?_;refine hD fx (λd N G Y=>?_);have f:=O.t G;have u:fU d w.heap.size 34 (qJ x).toArray:=M.ext G;have v:fU d m.heap.size 34 (qJ y).toArray:=N;have a0:d.cell? ⟨w.heap.size,0,none⟩=some (.int .i64 x.n.mode):=u.cell 0;have Q:d.cell? ⟨w.heap.size,1,none⟩=some (.int .i64 x.n.uid):=u.cell 1;have a2:d.cell? ⟨w.heap.size,2,none⟩=some (.int .i64 x.n.gid):=u.cell 2;have a3:d.cell? ⟨w.heap.size,3,none⟩=some (.int .i64 x.n.time):=u.cell 3;have a4:d.cell? ⟨w.heap.size,4,none⟩=some x.va:=u.cell 4;have R:d.cell? ⟨m.heap.size,0,none⟩=some (.int .i64 y.n.mode):=v.cell 0;have S:d.cell? ⟨m.heap.size,1,none⟩=some (.int .i64 y.n.uid):=v.cell 1;have T:d.cell? ⟨m.heap.size,2,none⟩=some (.int .i64 y.n.gid):=v.cell 2;have U:d.cell? ⟨m.heap.size,3,none⟩=some (.int .i64 y.n.time):=v.cell 3;have V:d.cell? ⟨m.heap.size,4,none⟩=some y.va:=v.cell 4
 by_cases e0:x.n.mode=y.n.mode
 case neg=>
  refine fA ?_;exact fB fx fx ⟨[109,111,100,101],rfl,⟨λh=>(by cases h),λh=>absurd h.1 e0⟩,f⟩
 by_cases D:x.n.uid=y.n.uid
 case neg=>
  refine fA ?_;exact fB fx fx ⟨[117,105,100],rfl,⟨λh=>(by cases h),λh=>absurd h.2.1 D⟩,f⟩
 by_cases E:x.n.gid=y.n.gid
 case neg=>
  refine fA ?_;exact fB fx fx ⟨[103,105,100],rfl,⟨λh=>(by cases h),λh=>absurd h.2.2.1 E⟩,f⟩
 by_cases F:x.n.time=y.n.time
 case neg=>
  refine fA ?_;exact fB fx fx ⟨[116,105,109,101],rfl,⟨λh=>(by cases h),λh=>absurd h.2.2.2.1 F⟩,f⟩
 refine fA ?_;refine fG fx fx (IY d x.va y.va x.n.attrs y.n.attrs (I.a.ext f) (J.a.ext f)) (λr C K=>?_);obtain⟨rfl,g⟩:=K
 by_cases e4:x.n.attrs=y.n.attrs
 case neg=>
  rw[decide_eq_false e4];refine fA ?_;exact fB fx fx ⟨[97,116,116,114,115],rfl,⟨λh=>(by cases h),λh=>absurd h.2.2.2.2.1 e4⟩,f.t g⟩
 rw[decide_eq_true e4];have a5:C.cell? ⟨w.heap.size,5,none⟩=some x.vc:=(u.ext g).cell 5;have W:C.cell? ⟨m.heap.size,5,none⟩=some y.vc:=(v.ext g).cell 5;refine fA ?_;refine fG fx fx (Nx C x.vc y.vc x.n.acl y.n.acl (I.c.ext (f.t g)) (J.c.ext (f.t g))) (λr Z L=>?_);obtain⟨rfl,H⟩:=L
 by_cases B:x.n.acl=y.n.acl
 case neg=>
  rw[decide_eq_false B];refine fA ?_;exact fB fx fx ⟨[97,99,108],rfl,⟨λh=>(by cases h),λh=>absurd h.2.2.2.2.2 B⟩,f.t (g.t H)⟩
 rw[decide_eq_true B];refine fA ?_;exact fB fx fx ⟨[],rfl,⟨λ_=>⟨e0,D,E,F,e4,B⟩,λ_=>rfl⟩,f.t (g.t H)⟩
theorem JY (w:World) (x y:gG) (S:ix w x) (T:ix w y):fL prog 83 #[.agg (gz x).toArray,.agg (gz y).toArray] w λr w'=>∃s,r= .string (su s)/\(s=[]↔x.n=y.n)/\Ext w w':=by
 refine gK func83 fx fF ?_;refine fA ?_;refine hD fx (λa W Y am=>?_);refine fA ?_;refine hD fx (λf X R an=>?_);have E:=Y.t R;have F:fU f w.heap.size 37 (gz x).toArray:=W.ext R;have I:fU f a.heap.size 37 (gz y).toArray:=X;have a0:f.cell? ⟨w.heap.size,0,none⟩=some (.int .i64 x.n.kind):=F.cell 0;have ag:f.cell? ⟨a.heap.size,0,none⟩=some (.int .i64 y.n.kind):=I.cell 0;have Z:∀j u,(qJ x)[j]? =some u->f.cell? ⟨w.heap.size,0+1+j,none⟩=some u:=λj u hu=>by rw[iC,F.cell];exact DE hu
 have aa:∀j u,(qJ y)[j]? =some u->f.cell? ⟨a.heap.size,0+1+j,none⟩=some u:=λj u hu=>by rw[iC,I.cell];exact DE hu
 by_cases e0:x.n.kind=y.n.kind
 case neg=>
  refine fA ?_;exact fB fx fx ⟨[107,105,110,100],rfl,⟨λh=>(by cases h),λh=>absurd (by rw[h]) e0⟩,E⟩
 refine fA ?_;refine hL (cs:=qJ x) fx fx Z ?_;refine fA ?_;refine hL (cs:=qJ y) fx fx aa ?_;refine fG fx fx (yL f x y (S.ext E) (T.ext E)) (λr C U=>?_);obtain⟨s,rfl,hs,L⟩:=U;have v:=E.t L
 by_cases m:s=[]
 case neg=>
  repeat' (first|refine gq (op:= .neq) (b:=[]) (r:=true) rfl rfl (by simp[hZ,m]) ?_|refine fT ?_|fail)
  exact fB fx fx ⟨s,rfl,⟨λh=>absurd h m,λh=>absurd (hs.2 (by rw[h];exact⟨rfl,rfl,rfl,rfl,rfl,rfl⟩)) m⟩,v⟩
 have hm:=hs.1 m;subst m;have G:=F.ext L;have J:=I.ext L;have ae:C.cell? ⟨w.heap.size,7,none⟩=some (.int .i64 x.n.size):=G.cell 7;have aj:C.cell? ⟨a.heap.size,7,none⟩=some (.int .i64 y.n.size):=J.cell 7;have af:C.cell? ⟨w.heap.size,8,none⟩=some x.vd:=G.cell 8;have ak:C.cell? ⟨a.heap.size,8,none⟩=some y.vd:=J.cell 8
 by_cases N:x.n.size=y.n.size
 case neg=>
  repeat' (first|refine gq (op:= .neq) (b:=[]) (r:=false) rfl rfl rfl ?_|refine fT ?_|fail)
  exact fB fx fx ⟨[115,105,122,101],rfl,⟨λh=>(by cases h),λh=>absurd (by rw[h]) N⟩,v⟩
 repeat' (first|refine gq (op:= .neq) (b:=[]) (r:=false) rfl rfl rfl ?_|refine fT ?_|fail)
 refine fG fx fx (MM C x.vd y.vd x.n.data y.n.data (S.d.ext v) (T.d.ext v)) (λr g V=>?_);obtain⟨rfl,M⟩:=V;have B:=v.t M
 by_cases D:x.n.data=y.n.data
 case neg=>
  rw[decide_eq_false D];refine fA ?_;exact fB fx fx ⟨[100,97,116,97],rfl,⟨λh=>(by cases h),λh=>absurd (by rw[h]) D⟩,B⟩
 rw[decide_eq_true D];have H:=G.ext M;have K:=J.ext M;have a9:g.cell? ⟨w.heap.size,9,none⟩=some (.string (su x.n.target)):=H.cell 9;have al:g.cell? ⟨a.heap.size,9,none⟩=some (.string (su y.n.target)):=K.cell 9;have ab:g.cell? ⟨w.heap.size,10,none⟩=some (.int .i64 x.n.major):=H.cell 10;have ah:g.cell? ⟨a.heap.size,10,none⟩=some (.int .i64 y.n.major):=K.cell 10;have ad:g.cell? ⟨w.heap.size,11,none⟩=some (.int .i64 x.n.minor):=H.cell 11;have ai:g.cell? ⟨a.heap.size,11,none⟩=some (.int .i64 y.n.minor):=K.cell 11
 by_cases e4:x.n.target=y.n.target
 case neg=>
  repeat' (first|refine gq (op:= .neq) (r:=true) rfl rfl (by simp[hZ,e4]) ?_|refine fT ?_|fail)
  exact fB fx fx ⟨[116,97,114,103,101,116],rfl,⟨λh=>(by cases h),λh=>absurd (by rw[h]) e4⟩,B⟩
 by_cases O:x.n.major=y.n.major
 case neg=>
  refine Xf ?_;exact fB fx fx ⟨[100,101,118,105,99,101],rfl,⟨λh=>(by cases h),λh=>absurd (by rw[h]) O⟩,B⟩
 by_cases Q:x.n.minor=y.n.minor
 case neg=>
  refine Xf ?_;exact fB fx fx ⟨[100,101,118,105,99,101],rfl,⟨λh=>(by cases h),λh=>absurd (by rw[h]) Q⟩,B⟩
 refine Xf ?_;exact fB fx fx ⟨[],rfl,⟨λ_=>YM e0 hm N D e4 O Q,λ_=>rfl⟩,B⟩
theorem I4 (w:World) (x y:gG) (E:ix w x) (F:ix w y):fL prog 35 #[.agg (gz x).toArray,.agg (gz y).toArray] w λr w'=>r= .bool (decide (x.n=y.n))/\Ext w w':=by
 refine gK func35 fx fF ?_;refine fA ?_;refine hD fx (λG B D H=>?_);refine fA ?_;refine hD fx (λd C f I=>?_);have a:=D.t f;have u:fU d w.heap.size 37 (gz x).toArray:=B.ext f;have v:fU d G.heap.size 37 (gz y).toArray:=C;refine fA ?_;refine gM (t:=37) u fx fx ?_;refine fA ?_;refine gM (t:=37) v fx fx ?_;refine fA ?_;refine fG fx fx (JY d x y (E.ext a) (F.ext a)) (λr J m=>?_);obtain⟨s,rfl,hs,g⟩:=m
 by_cases e:s=[]
 ·repeat' (first|refine gq (op:= .eql) (b:=[]) (r:=true) rfl rfl (by simp[hZ,e]) ?_|refine fT ?_|fail)
  exact fB fx fx ⟨by rw[decide_eq_true (hs.1 e)],a.t g⟩
 ·repeat' (first|refine gq (op:= .eql) (b:=[]) (r:=false) rfl rfl (by simp[hZ,e]) ?_|refine fT ?_|fail)
  exact fB fx fx ⟨by rw[decide_eq_false λh=>e (hs.2 h)],a.t g⟩
end
end Go.Proofs.YtecaahegomdbbaaGreatDoor.gp
