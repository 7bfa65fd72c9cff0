/- Parts of the proof. -/
import Derived.Test.YtecaahegomdbbaaGreatDoorRfB4a
set_option linter.all false
set_option maxRecDepth 100000
set_option maxHeartbeats 64000000
namespace Go.Proofs.YtecaahegomdbbaaGreatDoor.gp
open Go.Proofs.Tryz
open Go.RowKit
section
attribute [local irreducible] xs T
theorem NC (w:World) (a:Ac):fL prog 230 #[.agg (lh a).toArray] w λr w'=>r= .bool (lk a)/\Ext w w':=by
 refine gr func230 fx fF ?_;refine fA ?_;refine hD fx (λd m g n=>?_);have f:fU d w.heap.size 70 #[.int .i64 a.kind,.int .i64 a.id,.int .i64 a.perm]:=m;have k0:d.cell? ⟨w.heap.size,0,none⟩=some (.int .i64 a.kind):=f.cell 0;have k1:d.cell? ⟨w.heap.size,1,none⟩=some (.int .i64 a.id):=f.cell 1;have k2:d.cell? ⟨w.heap.size,2,none⟩=some (.int .i64 a.perm):=f.cell 2
 repeat' (first|refine fT ?_|refine kW rfl rfl (λhc=>?_) (λhc=>?_)|refine kX rfl rfl (λhc=>?_) (λhc=>?_)|refine kR rfl rfl (λhc=>?_) (λhc=>?_)|refine kU rfl rfl (λhc=>?_) (λhc=>?_)|refine lf rfl rfl (λhc=>?_) (λhc=>?_)|refine kY rfl rfl (λhc=>?_) (λhc=>?_)|fail)
 all_goals first|exact fB rfl rfl ⟨pd (uV a) fy,g⟩|exact fB rfl rfl ⟨oX (uV a) fy,g⟩
theorem EX (a b:Ac):acLt a b=true↔a.kind<b.kind∨(a.kind=b.kind/\a.id<b.id):=by
 simp only[acLt,tK,iO,decide_eq_true_eq]
theorem A9 (w:World) (a b:Ac):fL prog 231 #[.agg (lh a).toArray,.agg (lh b).toArray] w λr w'=>r= .bool (acLt a b)/\Ext w w':=by
 refine gK func231 fx fF ?_;refine fA ?_;refine hD fx (λf u x D=>?_);refine fA ?_;refine hD fx (λd v s E=>?_);have n:=x.t s;have g:fU d w.heap.size 70 #[.int .i64 a.kind,.int .i64 a.id,.int .i64 a.perm]:=u.ext s;have m:fU d f.heap.size 70 #[.int .i64 b.kind,.int .i64 b.id,.int .i64 b.perm]:=v;have a0:d.cell? ⟨w.heap.size,0,none⟩=some (.int .i64 a.kind):=g.cell 0;have y:d.cell? ⟨w.heap.size,1,none⟩=some (.int .i64 a.id):=g.cell 1;have B:d.cell? ⟨f.heap.size,0,none⟩=some (.int .i64 b.kind):=m.cell 0;have C:d.cell? ⟨f.heap.size,1,none⟩=some (.int .i64 b.id):=m.cell 1
 repeat' (first|refine fT ?_|refine kW rfl rfl (λhc=>?_) (λhc=>?_)|refine kX rfl rfl (λhc=>?_) (λhc=>?_)|refine kR rfl rfl (λhc=>?_) (λhc=>?_)|refine kU rfl rfl (λhc=>?_) (λhc=>?_)|refine lf rfl rfl (λhc=>?_) (λhc=>?_)|refine kY rfl rfl (λhc=>?_) (λhc=>?_)|fail)
 all_goals first|exact fB rfl rfl ⟨pd (EX a b) fy,n⟩|exact fB rfl rfl ⟨oX (EX a b) fy,n⟩
def zb (l:List Ac):Bool:=!(l.any λa=>decide (a.kind=3))&&decide (l≠[])
theorem FM (w:World) (v:Value) (l:List Ac) (n:Rw lh w v l):fL prog 232 #[v] w λr w'=>r= .bool (zb l)/\w=w':=by
 refine gr func232 fx fF ?_;obtain⟨A,c,rfl,s,t,f⟩:=n.op jZ;unfold zb;refine fA ?_;refine gA (α:=Nat) (λi=>[(0,.slice A l.length c),(3,.int .i64 (i:Int))]) (λi w'=>w=w'/\i<=l.length/\((l.drop i).any λa=>decide (a.kind=3))=l.any λa=>decide (a.kind=3)) (λi=>l.length-i) 0 (sub ⟨rfl,rfl⟩) ⟨rfl,iy _,rfl⟩ ?_;rintro i w' ⟨rfl,hi,d⟩
 by_cases fW:i<l.length
 ·obtain⟨b,o,x,rfl,_,u,m,g⟩:=f.at_ fW;rw[m,List.any_cons]at d;have k0:w.cell? ⟨b,o+i*3+0,none⟩=some (.int .i64 x.kind):=g 0 _ rfl
  by_cases h:x.kind=3
  ·rw[decide_eq_true h,Bool.true_or]at d;refine E5 ?_;exact fB fx fx ⟨by rw[←d];rfl,rfl⟩
  ·rw[decide_eq_false h,Bool.false_or]at d;refine E5 ?_;exact gn ⟨i+1,sub ⟨rfl,rfl⟩,⟨rfl,fy,d⟩,(by show l.length-(i+1)<l.length-i;omega)⟩
 ·obtain rfl:i=l.length:=fy;rw[jJ]at d;rw[←d]
  by_cases h0:l.length=0
  ·have e0:l=[]:=zJ.1 h0;refine fA ?_;exact fB fx fx ⟨by simp[e0],rfl⟩
  ·have e0:l≠[]:=λe=>h0 (by rw[e];rfl)
   refine fA ?_;exact fB fx fx ⟨by simp[e0],rfl⟩
theorem P1 (l:List Ac):og l=(jo lk acLt none l&&(decide (l.length<=16)&&!zb l)):=by
 rw[og,rM,zb];cases decide (l.length<=16)<;>cases l.all lk<;>cases kQ acLt none l<;>by_cases h:l=[]<;>simp[h]
theorem ED (w:World) (v:Value) (l:List Ac) (I:Rw lh w v l):fL prog 167 #[v] w λr w'=>r= .bool (og l)/\Ext w w':=by
 refine gr func167 fx fF ?_;obtain⟨A,c,rfl,X,Y,D⟩:=I.op jZ;rw[P1];refine fA ?_;refine gA (α:=Nat) (λi=>[(0,.slice A l.length c),(3,.int .i64 (i:Int))]) (λi w'=>Ext w w'/\i<=l.length/\jo lk acLt (hT l i) (l.drop i)=jo lk acLt none l) (λi=>l.length-i) 0 (sub ⟨rfl,rfl⟩) ⟨Fr.refl _ _,iy _,rfl⟩ ?_;rintro i B ⟨f,hi,a⟩
 by_cases fW:i<l.length
 ·obtain⟨b,o,x,rfl,_,T,Z,Q⟩:=D.at_ fW;rw[p8 T]at a;have J:∀j u,(lh x)[j]? =some u->B.drew.cell? ⟨b,o+i*3+j,none⟩=some u:=λj u hu=>f.cell (Q j u hu)
  refine E5 ?_;refine hL (cs:=lh x) fx fx J ?_;refine fG fx fx (NC B.drew x) (λr g s=>?_);obtain⟨rfl,F⟩:=s;have m:Ext w g:=f.d.t F;cases G:lk x with
  |false=>
   rw[G,hW,hW]at a;refine fA ?_;exact fB fx fx ⟨by rw[←a];rfl,m⟩
  | true=>
   rw[G,iU]at a;cases i with
   |zero=>
    have a:jo lk acLt (hT l (0+1)) (l.drop (0+1))=jo lk acLt none l:=by simpa[hT]using a
    refine fA ?_;exact gn ⟨0+1,sub ⟨rfl,rfl⟩,⟨m,fy,a⟩,(by show l.length-(0+1)<l.length-0;omega)⟩
   | succ k=>
    obtain⟨y,K⟩:∃y,l[k]? =some y:=⟨_,kp fy⟩;have S:hT l (k+1)=some y:=K;rw[S]at a;dsimp only at a;obtain⟨b',o',aa,e',_,n,_,R⟩:=D.at_ (i:=k) fy;injection e' with e'
    injection e' with L M
    subst L;subst M;rw[K]at n;injection n with n
    subst n;have V:∀j u,(lh y)[j]? =some u->g.cell? ⟨b,o+k*3+j,none⟩=some u:=λj u hu=>m.cell (R j u hu)
    have U:∀j u,(lh x)[j]? =some u->g.cell? ⟨b,o+(k+1)*3+j,none⟩=some u:=λj u hu=>F.cell (J j u hu)
    repeat' (first|refine gF k (o+k*3) rfl rfl rfl fy rfl fy ?_|refine fT ?_|fail)
    refine hL (cs:=lh y) fx fx V ?_
    repeat' (first|refine gF (k+1) (o+(k+1)*3) rfl rfl rfl rfl rfl fW ?_|refine fT ?_|fail)
    refine hL (cs:=lh x) fx fx U ?_;refine fA ?_;refine fG fx fx (A9 g y x) (λr W N=>?_);obtain⟨rfl,O⟩:=N;have E:Ext w W:=m.t O;cases H:acLt y x with
    |false=>
     rw[H,hW]at a;refine fA ?_;exact fB fx fx ⟨by rw[←a];rfl,E⟩
    |true=>
     rw[H,iU]at a;refine fA ?_;exact gn ⟨k+1+1,sub ⟨rfl,rfl⟩,⟨E,fy,a⟩,(by show l.length-(k+1+1)<l.length-(k+1);omega)⟩
 ·obtain rfl:i=l.length:=fy;rw[jJ]at a;rw[←a]
  by_cases C:l.length<=16
  ·rw[decide_eq_true C,iU];refine fA ?_;refine fG fx fx (FM B _ l (I.ext f)) (λr g s=>?_);obtain⟨rfl,rfl⟩:=s;cases hm:zb l with
   |true=>
    exact y34
   |false=>
    exact y34
  ·rw[decide_eq_false C];exact y34
theorem J2 (w:World) (a:xn):fL prog 166 #[.agg (jK a).toArray] w λr w'=>r= .bool (jV a)/\Ext w w':=by
 refine gr func166 fx fF ?_;refine fA ?_;refine hD fx (λd m g n=>?_);have f:fU d w.heap.size 68 #[.string (su a.name),.string (su a.value)]:=m;have k0:d.cell? ⟨w.heap.size,0,none⟩=some (.string (su a.name)):=f.cell 0;have k1:d.cell? ⟨w.heap.size,1,none⟩=some (.string (su a.value)):=f.cell 1
 repeat' (first|refine iu rfl rfl ?_|refine iH rfl rfl ?_|refine fT ?_|refine kW rfl rfl (λhc=>?_) (λhc=>?_)|refine kX rfl rfl (λhc=>?_) (λhc=>?_)|refine kR rfl rfl (λhc=>?_) (λhc=>?_)|refine kU rfl rfl (λhc=>?_) (λhc=>?_)|refine lf rfl rfl (λhc=>?_) (λhc=>?_)|refine kY rfl rfl (λhc=>?_) (λhc=>?_)|fail)
 all_goals first|exact fB rfl rfl ⟨pd (rX a) fy,g⟩|exact fB rfl rfl ⟨oX (rX a) fy,g⟩
theorem QQ (a b:fQ):(Op.bytesLess a b||decide (a=b))=!Op.bytesLess b a:=by
 by_cases e:a=b
 ·subst e;simp[ri]
 ·rcases tS a b e with h|h
  ·rw[h,Kw h];rfl
  ·rw[h,Kw h];simp[e]
def zO (n:Nd):Bool:=decide (0<=n.mode)&&decide (n.mode<=4095)&&uJ n.uid&&uJ n.gid&&decide (0<=n.time)&&decide (n.attrs.length<=8)
theorem Ip (n:Nd):gT n=(jo jV j8 none n.attrs&&(zO n&&og n.acl)):=by
 rw[Dd,zO];cases jo jV j8 none n.attrs<;>simp[LZ]
theorem BJ (n:Nd):zO n=true↔0<=n.mode/\n.mode<=4095/\0<=n.uid/\n.uid<=2147483647/\0<=n.gid/\n.gid<=2147483647/\0<=n.time/\n.attrs.length<=8:=by
 simp only[zO,uJ,iO,decide_eq_true_eq,and_assoc]
theorem RP {n:Nd} (q:Bool) (h:¬(0<=n.mode/\n.mode<=4095/\0<=n.uid/\n.uid<=2147483647/\0<=n.gid/\n.gid<=2147483647/\0<=n.time/\n.attrs.length<=8)):Value.bool false= .bool (zO n&&q):=by
 cases hm:zO n with
 |false=>rfl
 |true=>exact absurd ((BJ n).1 hm) h
theorem A7 (w:World) (x:gG) (Q:ix w x):fL prog 104 #[.agg (qJ x).toArray] w λr w'=>r= .bool (gT x.n)/\Ext w w':=by
 refine gr func104 fx fF ?_;rw[Ip];refine fA ?_;refine hD fx (λF W B ag=>?_);have v:fU F w.heap.size 34 #[.int .i64 x.n.mode,.int .i64 x.n.uid,.int .i64 x.n.gid,.int .i64 x.n.time,x.va,x.vc]:=W;obtain⟨A,c,V,X,ae,H⟩:=Q.a.op jN;have k4:F.cell? ⟨w.heap.size,4,none⟩=some (.slice A x.n.attrs.length c):=by rw[←V];exact v.cell 4
 obtain⟨l,L⟩:∃l,l=x.n.attrs:=⟨_,rfl⟩;rw[←L]at H X k4⊢;refine fA ?_;refine gA (α:=Nat) (λi=>[(1,.pointer (some ⟨w.heap.size,0,none⟩)),(3,.int .i64 (i:Int))]) (λi w'=>Ext F w'/\i<=l.length/\jo jV j8 (hT l i) (l.drop i)=jo jV j8 none l) (λi=>l.length-i) 0 (sub ⟨rfl,rfl⟩) ⟨Fr.refl _ _,iy _,rfl⟩ ?_;rintro i g ⟨m,hi,f⟩;have m4:g.cell? ⟨w.heap.size,4,none⟩=some (.slice A l.length c):=m.cell k4;have ah:g.drew.cell? ⟨w.heap.size,4,none⟩=some (.slice A l.length c):=m4
 by_cases fW:i<l.length
 ·obtain⟨b,o,y,rfl,_,ab,af,N⟩:=H.at_ fW;rw[p8 ab]at f;have ad:∀j u,(jK y)[j]? =some u->g.drew.cell? ⟨b,o+i*2+j,none⟩=some u:=λj u hu=>m.cell (B.cell (N j u hu))
  refine zF ?_;refine hL (cs:=jK y) fx fx ad ?_;refine fG fx fx (J2 g.drew y) (λr C G=>?_);obtain⟨rfl,I⟩:=G;have s:Ext F C:=m.d.t I;cases O:jV y with
  |false=>
   rw[O,hW,hW]at f;refine fA ?_;exact fB fx fx ⟨by rw[←f];rfl,B.t s⟩
  | true=>
   rw[O,iU]at f;cases i with
   |zero=>
    have f:jo jV j8 (hT l (0+1)) (l.drop (0+1))=jo jV j8 none l:=by simpa[hT]using f
    refine fA ?_;exact gn ⟨0+1,sub ⟨rfl,rfl⟩,⟨s,fy,f⟩,(by show l.length-(0+1)<l.length-0;omega)⟩
   | succ k=>
    obtain⟨z,R⟩:∃z,l[k]? =some z:=⟨_,kp fy⟩;have aa:hT l (k+1)=some z:=R;rw[aa]at f;dsimp only at f;obtain⟨b',o',ak,e',_,E,_,Y⟩:=H.at_ (i:=k) fy;injection e' with e'
    injection e' with S U
    subst S;subst U;rw[R]at E;injection E with E
    subst E;have aj:C.cell? ⟨w.heap.size,4,none⟩=some (.slice (some ⟨b,o,none⟩) l.length c):=s.cell k4;have n1:C.cell? ⟨b,o+k*2+0,none⟩=some (.string (su z.name)):=s.cell (B.cell (Y 0 _ rfl));have ai:C.cell? ⟨b,o+(k+1)*2+0,none⟩=some (.string (su y.name)):=s.cell (B.cell (N 0 _ rfl));cases D:j8 z y with
    |false=>
     rw[D,hW]at f;have K:Op.bytesLess z.name y.name=false:=D
     repeat' (first|refine gF (k+1) (o+(k+1)*2) rfl rfl rfl rfl rfl fW ?_|refine gF k (o+k*2) rfl rfl rfl fy rfl fy ?_|refine gq (op:= .leq) (r:=true) rfl rfl (by rw[hZ,QQ,K];rfl) ?_|refine fT ?_|fail)
     exact fB fx fx ⟨by rw[←f];rfl,B.t s⟩
    |true=>
     rw[D,iU]at f;have K:Op.bytesLess z.name y.name=true:=D
     repeat' (first|refine gF (k+1) (o+(k+1)*2) rfl rfl rfl rfl rfl fW ?_|refine gF k (o+k*2) rfl rfl rfl fy rfl fy ?_|refine gq (op:= .leq) (r:=false) rfl rfl (by rw[hZ,QQ,K];rfl) ?_|refine fT ?_|fail)
     exact gn ⟨k+1+1,sub ⟨rfl,rfl⟩,⟨s,fy,f⟩,(by show l.length-(k+1+1)<l.length-(k+1);omega)⟩
 ·have Z:i=l.length:=fy;subst Z;rw[jJ]at f;rw[←f];show T prog _ (λr w'=>r= .bool (zO x.n&&og x.n.acl)/\Ext w w') _ _ _
  have m0:g.cell? ⟨w.heap.size,0,none⟩=some (.int .i64 x.n.mode):=(v.ext m).cell 0;have m1:g.cell? ⟨w.heap.size,1,none⟩=some (.int .i64 x.n.uid):=(v.ext m).cell 1;have m2:g.cell? ⟨w.heap.size,2,none⟩=some (.int .i64 x.n.gid):=(v.ext m).cell 2;have m3:g.cell? ⟨w.heap.size,3,none⟩=some (.int .i64 x.n.time):=(v.ext m).cell 3;have m5:g.cell? ⟨w.heap.size,5,none⟩=some x.vc:=(v.ext m).cell 5;have J:=B.t m
  by_cases hq:0<=x.n.mode/\x.n.mode<=4095/\0<=x.n.uid/\x.n.uid<=2147483647/\0<=x.n.gid/\x.n.gid<=2147483647/\0<=x.n.time/\x.n.attrs.length<=8
  ·rw[(BJ x.n).2 hq,iU];have M:=hq;rw[←L]at M;refine fA ?_;refine fG fx fx (ED g x.vc x.n.acl (Q.c.ext J)) (λr C G=>?_);obtain⟨rfl,I⟩:=G;refine fA ?_;exact fB fx fx ⟨rfl,J.t I⟩
  ·have M:=hq;rw[←L]at M
   repeat' (first|refine fT ?_|refine kW rfl rfl (λhc=>?_) (λhc=>?_)|refine kX rfl rfl (λhc=>?_) (λhc=>?_)|refine kR rfl rfl (λhc=>?_) (λhc=>?_)|refine kU rfl rfl (λhc=>?_) (λhc=>?_)|refine lf rfl rfl (λhc=>?_) (λhc=>?_)|refine kY rfl rfl (λhc=>?_) (λhc=>?_)|fail)
   all_goals first|exact fB rfl rfl ⟨RP _ hq,J⟩|(exfalso;omega)
end
end Go.Proofs.YtecaahegomdbbaaGreatDoor.gp
