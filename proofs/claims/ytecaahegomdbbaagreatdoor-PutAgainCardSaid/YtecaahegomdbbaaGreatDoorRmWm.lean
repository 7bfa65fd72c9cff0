/- Parts of the proof. -/
import Derived.Test.YtecaahegomdbbaaGreatDoorRmWi
import Derived.Test.YtecaahegomdbbaaGreatDoorRmWk
set_option linter.all false
set_option maxRecDepth 99999
set_option maxHeartbeats 0
namespace Go.Proofs.YtecaahegomdbbaaGreatDoor.gr
open Go.Proofs.Tryz
open Go.RowKit
section
attribute [local irreducible] xs T
def na (w:i5) (x:gG) (F:im w x) (T:fF x.n.data<=1000000) (W:x.n.target.length<=1000000):fQ prog 55 #[.agg (gB x).toArray] w λr w'=>r= .bool (fG x.n)/\Ext w w':=by
 refine gD func55 fx fE ?_;refine fA ?_;refine hP fx (λG S I ab=>?_);have H:fW G w.heap.size 37 (gB x).toArray:=S;obtain⟨A,c,Q,Z,aa,Y⟩:=F.d.op hB;have U:∀j u,(qV x)[j]? =some u->G.cell? ⟨w.heap.size,0+1+j,none⟩=some u:=λj u hu=>by rw[iM,H.cell];exact Eg hu
 refine fA ?_;refine hV (cs:=qV x) fx fx U ?_;refine fH fx fx (BF G x (F.ext I)) (λr v R=>?_);obtain⟨rfl,J⟩:=R;have m:=I.t J;unfold fG;cases hm:hd x.n with
 |false=>
  exact Z1
 |true=>
 rw[iV];have y:fW v w.heap.size 37 (gB x).toArray:=H.ext J;have k0:gc v w.heap.size 0 (.I x.n.kind):=y.cell 0;have k7:gc v w.heap.size 7 (.I x.n.size):=y.cell 7;have k8:v.cell? ⟨w.heap.size,8,none⟩=some (.slice A x.n.data.length c):=by rw[<-Q];exact y.cell 8
 have k9:gc v w.heap.size 9 (.U x.n.target):=y.cell 9;have GS:gc v w.heap.size 10 (.I x.n.major):=y.cell 10;have IJ:gc v w.heap.size 11 (.I x.n.minor):=y.cell 11;have K:x.n.data.length=0↔x.n.data=[]:=zT;refine Zc ?_;refine p5 (α:=Unit) (λ_=>[(1,.P w.heap.size),(3,.bool (iv x.n))]) (λ_ w'=>v=w') ?_ ?_
 .by_cases N:x.n.size=0
  .by_cases D:x.n.data.length=0
   .have e:iv x.n=true:=by simp only[iv,decide_eq_true N,decide_eq_true (K.1 D),Mv]
    rw[e];exact y22
   .have e:iv x.n=false:=by simp only[iv,decide_eq_false (λe=>D (K.2 e)),tl]
    rw[e];exact y22
  .have e:iv x.n=false:=by simp only[iv,decide_eq_false N,hW]
   rw[e];exact y22
 rintro _ _ rfl;refine Zc ?_;refine p5 (α:=Unit) (λ_=>[(1,.P w.heap.size),(3,.bool (iv x.n)),(4,.bool (jz x.n))]) (λ_ w'=>v=w') ?_ ?_
 .repeat' (first|refine gk (op:= .eql) (b:=[]) fx fx fx ?_|refine fT ?_|fail)
  exact gl ⟨(),sub ⟨rfl,rfl,rfl⟩,rfl⟩
 rintro _ _ rfl;refine Zc ?_;refine p5 (α:=Unit) (λ_=>[(1,.P w.heap.size),(3,.bool (iv x.n)),(4,.bool (jz x.n)),(5,.bool (jL x.n))]) (λ_ w'=>v=w') ?_ ?_
 .by_cases L:x.n.major=0
  .by_cases M:x.n.minor=0
   .have e:jL x.n=true:=by simp only[jL,decide_eq_true L,decide_eq_true M,Mv]
    exact y41
   .have e:jL x.n=false:=by simp only[jL,decide_eq_false M,tl]
    exact y41
  .have e:jL x.n=false:=by simp only[jL,decide_eq_false L,hW]
   exact y41
 rintro _ _ rfl;generalize V:iv x.n=p;generalize hq:jz x.n=q;generalize hs:jL x.n=s;clear V hq hs
 by_cases g1:x.n.kind=1\/x.n.kind=6
 .rw[if_pos g1];rcases g1 with g1|g1
  .cases p with
   |false=>
    exact SJ
   |true=>
   cases q with
   |false=>
    exact SJ
   |true=>
   cases s with
   |false=>
    exact SJ
   |true=>
    exact SJ
  .cases p with
   |false=>
    exact SJ
   |true=>
   cases q with
   |false=>
    exact SJ
   |true=>
   cases s with
   |false=>
    exact SJ
   |true=>
    exact SJ
 rw[if_neg g1]
 by_cases g2:x.n.kind=2
 .rw[if_pos g2];refine fA ?_;refine gR (t:=37) y fx fx ?_;refine fA ?_;refine fH fx fx (JP v x (F.ext m) T) (λr X h3=>?_);obtain⟨rfl,C⟩:=h3;generalize jV x.n=f;cases f with
  |false=>
   exact y49
  |true=>
  cases q with
  |false=>
   exact y49
  |true=>
  cases s with
  |false=>
   exact y49
  |true=>
   exact y49
 rw[if_neg g2]
 by_cases g3:x.n.kind=3
 .rw[if_pos g3];obtain⟨l,D⟩:∃l,l=x.n.target:=⟨_,rfl⟩;rw[<-D]at k9 W|-;refine fA ?_;refine gC (α:=Nat) (λi=>[(1,.P w.heap.size),(3,.bool p),(5,.bool s),(6,.I (i:Int))]) (λi w'=>v=w'/\i<=l.length/\((l.drop i).all λc=>decide (c≠0))=l.all λc=>decide (c≠0)) (λi=>l.length-i) 0 (sub ⟨rfl,rfl,rfl,rfl⟩) ⟨rfl,iF _,rfl⟩ ?_;rintro i X ⟨rfl,hi,B⟩
  by_cases fY:i<l.length
  .obtain⟨c,hc⟩:∃c,l[i]? =some c:=⟨_,j9 fY⟩;rw[mA hc,ra]at B
   by_cases g:c=0
   .have O:((c.toNat:Int))=0:=by rw[g];rfl
    refine Vu ?_;refine fB fx fx ⟨?_,m⟩;rw[<-B,g];simp
   .have O:¬((c.toNat:Int))=0:=λh=>g ((rS (n:=0) fU).1 h)
    rw[decide_eq_true g,iV]at B;refine Vu ?_;exact gl ⟨i+1,sub ⟨rfl,rfl,rfl,rfl⟩,⟨rfl,fy,B⟩,(by show l.length-(i+1)<l.length-i;omega)⟩
  .obtain rfl:i=l.length:=fy;rw[jP]at B;rw[<-B,Gf,L1];cases p with
   |false=>
    refine l4 ?_;exact fB fx fx ⟨rfl,m⟩
   |true=>
   cases s with
   |false=>
    refine l4 ?_;exact fB fx fx ⟨rfl,m⟩
   |true=>
   by_cases t1:1<=l.length
   .by_cases t2:l.length<=200
    .refine l4 ?_;exact fB fx fx ⟨by simp[t1,t2],m⟩
    .refine l4 ?_;exact fB fx fx ⟨by simp[t2],m⟩
   .refine l4 ?_;exact fB fx fx ⟨by simp[t1],m⟩
 rw[if_neg g3]
 by_cases g4:x.n.kind=4\/x.n.kind=5
 .rw[if_pos g4];have E:(true&&true&&decide (0<=x.n.major)&&decide (x.n.major<=65535)&&decide (0<=x.n.minor)&&decide (x.n.minor<=65535))=true↔0<=x.n.major/\x.n.major<=65535/\0<=x.n.minor/\x.n.minor<=65535:=by simp only[iV,iU,decide_eq_true_eq,and_assoc]
  rcases g4 with g4|g4
  .cases p with
   |false=>
    exact Z1
   |true=>
   cases q with
   |false=>
    exact Z1
   |true=>
    repeat' (first|refine fT ?_|refine lj fx fx (λhc=>?_) (λhc=>?_)|refine lg fx fx (λhc=>?_) (λhc=>?_)|refine lq fx fx (λhc=>?_) (λhc=>?_)|refine lh fx fx (λhc=>?_) (λhc=>?_)|refine lv fx fx (λhc=>?_) (λhc=>?_)|refine lf fx fx (λhc=>?_) (λhc=>?_)|fail)
    all_goals first|exact fB rfl rfl ⟨pe E fy,m⟩|exact fB rfl rfl ⟨pt E fy,m⟩
  .cases p with
   |false=>
    exact Z1
   |true=>
   cases q with
   |false=>
    exact Z1
   |true=>
    repeat' (first|refine fT ?_|refine lj fx fx (λhc=>?_) (λhc=>?_)|refine lg fx fx (λhc=>?_) (λhc=>?_)|refine lq fx fx (λhc=>?_) (λhc=>?_)|refine lh fx fx (λhc=>?_) (λhc=>?_)|refine lv fx fx (λhc=>?_) (λhc=>?_)|refine lf fx fx (λhc=>?_) (λhc=>?_)|fail)
    all_goals first|exact fB rfl rfl ⟨pe E fy,m⟩|exact fB rfl rfl ⟨pt E fy,m⟩
 .rw[if_neg g4];exact SJ
