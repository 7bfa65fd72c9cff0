/- Parts of the proof. -/
import Derived.Test.YtecaahegomdbbaaGreatDoorRfWi
import Derived.Test.YtecaahegomdbbaaGreatDoorRfWk
set_option linter.all false
set_option maxRecDepth 100000
set_option maxHeartbeats 64000000
namespace Go.Proofs.YtecaahegomdbbaaGreatDoor.gp
open Go.Proofs.Tryz
open Go.RowKit
section
attribute [local irreducible] xs T
theorem oW (w:World) (x:gG) (E:ix w x) (T:fE x.n.data<=1000000) (W:x.n.target.length<=1000000):fL prog 55 #[.agg (gz x).toArray] w λr w'=>r= .bool (fH x.n)/\Ext w w':=by
 refine gr func55 fx fF ?_;refine fA ?_;refine hD fx (λF S H ab=>?_);have G:fU F w.heap.size 37 (gz x).toArray:=S;obtain⟨A,c,O,Z,aa,Y⟩:=E.d.op ha;have U:∀j u,(qJ x)[j]? =some u->F.cell? ⟨w.heap.size,0+1+j,none⟩=some u:=λj u hu=>by rw[iC,G.cell];exact DE hu
 refine fA ?_;refine hL (cs:=qJ x) fx fx U ?_;refine fG fx fx (A7 F x (E.ext H)) (λr m Q=>?_);obtain⟨rfl,I⟩:=Q;have a:=H.t I;unfold fH;cases hm:gT x.n with
 |false=>
  exact Yy
 |true=>
 rw[iU];have v:fU m w.heap.size 37 (gz x).toArray:=G.ext I;have k0:m.cell? ⟨w.heap.size,0,none⟩=some (.int .i64 x.n.kind):=v.cell 0;have k7:m.cell? ⟨w.heap.size,7,none⟩=some (.int .i64 x.n.size):=v.cell 7;have k8:m.cell? ⟨w.heap.size,8,none⟩=some (.slice A x.n.data.length c):=by rw[←O];exact v.cell 8
 have k9:m.cell? ⟨w.heap.size,9,none⟩=some (.string (su x.n.target)):=v.cell 9;have Hg:m.cell? ⟨w.heap.size,10,none⟩=some (.int .i64 x.n.major):=v.cell 10;have Fw:m.cell? ⟨w.heap.size,11,none⟩=some (.int .i64 x.n.minor):=v.cell 11;have J:x.n.data.length=0↔x.n.data=[]:=zJ;refine YD ?_;refine qD (α:=Unit) (λ_=>[(1,.pointer (some ⟨w.heap.size,0,none⟩)),(3,.bool (ib x.n))]) (λ_ w'=>m=w') ?_ ?_
 ·by_cases M:x.n.size=0
  ·by_cases C:x.n.data.length=0
   ·have e:ib x.n=true:=by simp only[ib,decide_eq_true M,decide_eq_true (J.1 C),Lu]
    rw[e];exact ZF
   ·have e:ib x.n=false:=by simp only[ib,decide_eq_false (λe=>C (J.2 e)),sO]
    rw[e];exact ZF
  ·have e:ib x.n=false:=by simp only[ib,decide_eq_false M,hW]
   rw[e];exact ZF
 rintro _ _ rfl;refine YD ?_;refine qD (α:=Unit) (λ_=>[(1,.pointer (some ⟨w.heap.size,0,none⟩)),(3,.bool (ib x.n)),(4,.bool (jq x.n))]) (λ_ w'=>m=w') ?_ ?_
 ·repeat' (first|refine gq (op:= .eql) (b:=[]) rfl rfl rfl ?_|refine fT ?_|fail)
  exact gn ⟨(),sub ⟨rfl,rfl,rfl⟩,rfl⟩
 rintro _ _ rfl;refine YD ?_;refine qD (α:=Unit) (λ_=>[(1,.pointer (some ⟨w.heap.size,0,none⟩)),(3,.bool (ib x.n)),(4,.bool (jq x.n)),(5,.bool (jG x.n))]) (λ_ w'=>m=w') ?_ ?_
 ·by_cases K:x.n.major=0
  ·by_cases L:x.n.minor=0
   ·have e:jG x.n=true:=by simp only[jG,decide_eq_true K,decide_eq_true L,Lu]
    exact y39
   ·have e:jG x.n=false:=by simp only[jG,decide_eq_false L,sO]
    exact y39
  ·have e:jG x.n=false:=by simp only[jG,decide_eq_false K,hW]
   exact y39
 rintro _ _ rfl;generalize V:ib x.n=p;generalize hq:jq x.n=q;generalize hs:jG x.n=s;clear V hq hs
 by_cases g1:x.n.kind=1∨x.n.kind=6
 ·rw[if_pos g1];rcases g1 with g1|g1
  ·cases p with
   |false=>
    exact y5
   |true=>
   cases q with
   |false=>
    exact y5
   |true=>
   cases s with
   |false=>
    exact y5
   |true=>
    exact y5
  ·cases p with
   |false=>
    exact y5
   |true=>
   cases q with
   |false=>
    exact y5
   |true=>
   cases s with
   |false=>
    exact y5
   |true=>
    exact y5
 rw[if_neg g1]
 by_cases g2:x.n.kind=2
 ·rw[if_pos g2];refine fA ?_;refine gM (t:=37) v fx fx ?_;refine fA ?_;refine fG fx fx (Iw m x (E.ext a) T) (λr X R=>?_);obtain⟨rfl,B⟩:=R;generalize jP x.n=f;cases f with
  |false=>
   exact y47
  |true=>
  cases q with
  |false=>
   exact y47
  |true=>
  cases s with
  |false=>
   exact y47
  |true=>
   exact y47
 rw[if_neg g2]
 by_cases g3:x.n.kind=3
 ·rw[if_pos g3];obtain⟨l,C⟩:∃l,l=x.n.target:=⟨_,rfl⟩;rw[←C]at k9 W⊢;refine fA ?_;refine gA (α:=Nat) (λi=>[(1,.pointer (some ⟨w.heap.size,0,none⟩)),(3,.bool p),(5,.bool s),(6,.int .i64 (i:Int))]) (λi w'=>m=w'/\i<=l.length/\((l.drop i).all λc=>decide (c≠0))=l.all λc=>decide (c≠0)) (λi=>l.length-i) 0 (sub ⟨rfl,rfl,rfl,rfl⟩) ⟨rfl,iy _,rfl⟩ ?_;rintro i X ⟨rfl,hi,y⟩
  by_cases fW:i<l.length
  ·obtain⟨c,hc⟩:∃c,l[i]? =some c:=⟨_,kp fW⟩;rw[lT hc,rJ]at y
   by_cases g:c=0
   ·have N:((c.toNat:Int))=0:=by rw[g];rfl
    refine SE ?_;refine fB fx fx ⟨?_,a⟩;rw[←y,g];simp
   ·have N:¬((c.toNat:Int))=0:=λh=>g ((tf (n:=0) fV).1 h)
    rw[decide_eq_true g,iU]at y;refine SE ?_;exact gn ⟨i+1,sub ⟨rfl,rfl,rfl,rfl⟩,⟨rfl,fy,y⟩,(by show l.length-(i+1)<l.length-i;omega)⟩
  ·obtain rfl:i=l.length:=fy;rw[jJ]at y;rw[←y,Fq,KY];cases p with
   |false=>
    refine lP ?_;exact fB fx fx ⟨rfl,a⟩
   |true=>
   cases s with
   |false=>
    refine lP ?_;exact fB fx fx ⟨rfl,a⟩
   |true=>
   by_cases t1:1<=l.length
   ·by_cases t2:l.length<=200
    ·refine lP ?_;exact fB fx fx ⟨by simp[t1,t2],a⟩
    ·refine lP ?_;exact fB fx fx ⟨by simp[t2],a⟩
   ·refine lP ?_;exact fB fx fx ⟨by simp[t1],a⟩
 rw[if_neg g3]
 by_cases g4:x.n.kind=4∨x.n.kind=5
 ·rw[if_pos g4];have D:(true&&true&&decide (0<=x.n.major)&&decide (x.n.major<=65535)&&decide (0<=x.n.minor)&&decide (x.n.minor<=65535))=true↔0<=x.n.major/\x.n.major<=65535/\0<=x.n.minor/\x.n.minor<=65535:=by simp only[iU,iO,decide_eq_true_eq,and_assoc]
  rcases g4 with g4|g4
  ·cases p with
   |false=>
    exact Yy
   |true=>
   cases q with
   |false=>
    exact Yy
   |true=>
    repeat' (first|refine fT ?_|refine kW rfl rfl (λhc=>?_) (λhc=>?_)|refine kX rfl rfl (λhc=>?_) (λhc=>?_)|refine kR rfl rfl (λhc=>?_) (λhc=>?_)|refine kU rfl rfl (λhc=>?_) (λhc=>?_)|refine lf rfl rfl (λhc=>?_) (λhc=>?_)|refine kY rfl rfl (λhc=>?_) (λhc=>?_)|fail)
    all_goals first|exact fB rfl rfl ⟨pd D fy,a⟩|exact fB rfl rfl ⟨oX D fy,a⟩
  ·cases p with
   |false=>
    exact Yy
   |true=>
   cases q with
   |false=>
    exact Yy
   |true=>
    repeat' (first|refine fT ?_|refine kW rfl rfl (λhc=>?_) (λhc=>?_)|refine kX rfl rfl (λhc=>?_) (λhc=>?_)|refine kR rfl rfl (λhc=>?_) (λhc=>?_)|refine kU rfl rfl (λhc=>?_) (λhc=>?_)|refine lf rfl rfl (λhc=>?_) (λhc=>?_)|refine kY rfl rfl (λhc=>?_) (λhc=>?_)|fail)
    all_goals first|exact fB rfl rfl ⟨pd D fy,a⟩|exact fB rfl rfl ⟨oX D fy,a⟩
 ·rw[if_neg g4];exact y5
end
end Go.Proofs.YtecaahegomdbbaaGreatDoor.gp
