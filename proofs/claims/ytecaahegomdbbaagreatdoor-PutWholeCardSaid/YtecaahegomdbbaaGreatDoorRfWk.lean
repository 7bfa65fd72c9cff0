/- Parts of the proof. -/
import Derived.Test.YtecaahegomdbbaaGreatDoorRfB4b
set_option linter.all false
set_option maxRecDepth 100000
set_option maxHeartbeats 64000000
namespace Go.Proofs.YtecaahegomdbbaaGreatDoor.gp
open Go.Proofs.Tryz
open Go.RowKit
section
attribute [local irreducible] xs T
theorem NH (w:World) (l:fQ) (c:UInt8):fL prog 93 #[.string (su l),.int .u8 (c.toNat:Int)] w λr w'=>r= .int .i64 (vS l c)/\w=w':=by
 refine gK func93 fx fF ?_;refine fA ?_;refine fI fx fx (yw w l c) (λr a h1=>?_);exact y9
theorem aez (l:fQ):vS l 0<0↔(l.all λc=>decide (c≠0))=true:=by
 unfold vS;cases h:l.findIdx? (· ==0)with
 |none=>
  rw[Vd]at h;refine⟨λ_=>lj.2 λc hc=>?_,λ_=>by dsimp only;omega⟩;have:=h c hc;simpa using this
 |some i=>
  obtain⟨hi,h1,a⟩:=Wu.1 h;refine⟨λh=>by dsimp only at h;omega,λh=>?_⟩;have:=lj.1 h l[i] (xd hi);simp at h1 this;exact absurd h1 this
theorem nL (w:World) (x:gG) (F:ix w x) (O:fE x.n.data<=1000000):fL prog 44 #[.agg (gz x).toArray] w λr w'=>r= .bool (fH x.n)/\Ext w w':=by
 refine gr func44 fx fF ?_;refine fA ?_;refine hD fx (λy M v Y=>?_);have C:fU y w.heap.size 37 (gz x).toArray:=M;obtain⟨A,c,K,W,X,V⟩:=F.d.op ha;have k0:y.cell? ⟨w.heap.size,0,none⟩=some (.int .i64 x.n.kind):=C.cell 0;have S:∀j u,(qJ x)[j]? =some u->y.cell? ⟨w.heap.size,0+1+j,none⟩=some u:=λj u hu=>by rw[iC,C.cell];exact DE hu
 by_cases Q:¬1<=x.n.kind
 ·refine fA ?_;exact fB fx fx ⟨by unfold fH;rw[if_neg fy,if_neg fy,if_neg fy,if_neg fy];simp,v⟩
 have Q:1<=x.n.kind:=fy
 by_cases R:¬x.n.kind<=6
 ·refine fA ?_;exact fB fx fx ⟨by unfold fH;rw[if_neg fy,if_neg fy,if_neg fy,if_neg fy];simp,v⟩
 have R:x.n.kind<=6:=fy;refine fA ?_;refine hL (cs:=qJ x) fx fx S ?_;refine fA ?_;refine fG fx fx (uc y x (F.ext v)) (λr f L=>?_);obtain⟨rfl,I⟩:=L;have a:=v.t I;unfold fH;cases hm:gT x.n with
 |false=>
  exact Yy
 |true=>
 rw[iU];have s:fU f w.heap.size 37 (gz x).toArray:=C.ext I;have k0:f.cell? ⟨w.heap.size,0,none⟩=some (.int .i64 x.n.kind):=s.cell 0;have k7:f.cell? ⟨w.heap.size,7,none⟩=some (.int .i64 x.n.size):=s.cell 7;have k8:f.cell? ⟨w.heap.size,8,none⟩=some (.slice A x.n.data.length c):=by rw[←K];exact s.cell 8
 have k9:f.cell? ⟨w.heap.size,9,none⟩=some (.string (su x.n.target)):=s.cell 9;have Hg:f.cell? ⟨w.heap.size,10,none⟩=some (.int .i64 x.n.major):=s.cell 10;have Fw:f.cell? ⟨w.heap.size,11,none⟩=some (.int .i64 x.n.minor):=s.cell 11;have J:x.n.data.length=0↔x.n.data=[]:=zJ;have T:ib x.n=true↔x.n.size=0/\x.n.data.length=0:=by simp only[ib,iO,decide_eq_true_eq,J]
 have ut:jq x.n=decide (x.n.target=[]):=rfl;have H:jG x.n=true↔x.n.major=0/\x.n.minor=0:=by simp only[jG,iO,decide_eq_true_eq]
 by_cases g2:x.n.kind=2
 ·rw[if_neg fy,if_pos g2]
  by_cases ht:x.n.target=[]
  ·rw[ut,decide_eq_true ht]
   by_cases g:x.n.major=0
   ·by_cases m:x.n.minor=0
    ·rw[H.2 ⟨g,m⟩,KY,KY];refine NZ ?_;refine gM (t:=37) s fx fx ?_;refine fA ?_;refine fG fx fx (DY f x (F.ext a) O) (λr U B=>?_);obtain⟨rfl,N⟩:=B;refine fA ?_;exact fB fx fx ⟨rfl,a.t N⟩
    ·refine NZ ?_;exact fB fx fx ⟨by simp[jG,m],a⟩
   ·refine NZ ?_;exact fB fx fx ⟨by simp[jG,g],a⟩
  ·repeat' (first|refine gq (op:= .neq) (b:=[]) (r:=true) rfl rfl (by simp[hZ,ht]) ?_|refine fT ?_|fail)
   exact fB fx fx ⟨by simp[jq,ht],a⟩
 by_cases G:¬x.n.size=0
 ·have e:ib x.n=false:=by simp[ib,G]
  repeat' (first|refine fT ?_|refine kW rfl rfl (λhc=>?_) (λhc=>?_)|refine kX rfl rfl (λhc=>?_) (λhc=>?_)|refine kR rfl rfl (λhc=>?_) (λhc=>?_)|refine kU rfl rfl (λhc=>?_) (λhc=>?_)|refine lf rfl rfl (λhc=>?_) (λhc=>?_)|refine kY rfl rfl (λhc=>?_) (λhc=>?_)|fail)
  all_goals
   refine fB fx fx ⟨?_,a⟩;rw[if_neg g2,e];simp
 have G:x.n.size=0:=fy
 by_cases E:¬x.n.data.length=0
 ·have e:ib x.n=false:=by simp only[ib,decide_eq_false (λe=>E (J.2 e)),sO]
  repeat' (first|refine fT ?_|refine kW rfl rfl (λhc=>?_) (λhc=>?_)|refine kX rfl rfl (λhc=>?_) (λhc=>?_)|refine kR rfl rfl (λhc=>?_) (λhc=>?_)|refine kU rfl rfl (λhc=>?_) (λhc=>?_)|refine lf rfl rfl (λhc=>?_) (λhc=>?_)|refine kY rfl rfl (λhc=>?_) (λhc=>?_)|fail)
  all_goals
   refine fB fx fx ⟨?_,a⟩;rw[if_neg g2,e];simp
 have E:x.n.data.length=0:=fy;rw[if_neg g2,T.2 ⟨G,E⟩];simp only[iU]
 by_cases g3:x.n.kind=3
 ·rw [if_neg fy,if_pos g3]
  by_cases g:x.n.major=0
  ·by_cases m:x.n.minor=0
   ·rw [H.2 ⟨g,m⟩,iU]
    by_cases t1:1<=x.n.target.length
    ·by_cases t2:x.n.target.length<=200
     ·rw[decide_eq_true t1,decide_eq_true t2,iU,iU];have hi:=aez x.n.target;refine lP ?_;refine fG fx fx (NH f x.n.target 0) (λr U B=>?_);obtain⟨rfl,rfl⟩:=B;cases D:(x.n.target.all λc=>decide (c≠0))with
      |true=>
       have hi:=hi.2 D;exact y5
      |false=>
       have hi:¬vS x.n.target 0<0:=λh=>by rw[hi.1 h]at D;cases D
       exact y5
     ·refine lP ?_;exact fB fx fx ⟨by simp[t2],a⟩
    ·refine lP ?_;exact fB fx fx ⟨by simp[t1],a⟩
   ·refine fA ?_;exact fB fx fx ⟨by simp[jG,m],a⟩
  ·refine fA ?_;exact fB fx fx ⟨by simp[jG,g],a⟩
 rw[if_neg g3]
 by_cases ht:¬x.n.target=[]
 ·repeat' (first|refine gq (op:= .neq) (b:=[]) (r:=true) rfl rfl (by simp[hZ,ht]) ?_|refine fT ?_|refine kW rfl rfl (λhc=>?_) (λhc=>?_)|refine kX rfl rfl (λhc=>?_) (λhc=>?_)|refine kR rfl rfl (λhc=>?_) (λhc=>?_)|refine kU rfl rfl (λhc=>?_) (λhc=>?_)|refine lf rfl rfl (λhc=>?_) (λhc=>?_)|refine kY rfl rfl (λhc=>?_) (λhc=>?_)|fail)
  all_goals
   refine fB fx fx ⟨?_,a⟩;rw[ut,decide_eq_false ht];simp
 have ht:x.n.target=[]:=Az.1 ht;rw[ut,decide_eq_true ht];simp only[iU]
 by_cases g4:x.n.kind=4∨x.n.kind=5
 ·rw[if_neg fy,if_pos g4];have hq:(decide (0<=x.n.major)&&decide (x.n.major<=65535)&&decide (0<=x.n.minor)&&decide (x.n.minor<=65535))=true↔0<=x.n.major/\x.n.major<=65535/\0<=x.n.minor/\x.n.minor<=65535:=by simp only[iO,decide_eq_true_eq,and_assoc]
  rcases g4 with g4|g4
  ·repeat' (first|refine gq (op:= .neq) (b:=[]) (r:=false) rfl rfl (by simp[hZ,ht]) ?_|refine fT ?_|refine kW rfl rfl (λhc=>?_) (λhc=>?_)|refine kX rfl rfl (λhc=>?_) (λhc=>?_)|refine kR rfl rfl (λhc=>?_) (λhc=>?_)|refine kU rfl rfl (λhc=>?_) (λhc=>?_)|refine lf rfl rfl (λhc=>?_) (λhc=>?_)|refine kY rfl rfl (λhc=>?_) (λhc=>?_)|fail)
   all_goals first|exact fB rfl rfl ⟨pd hq fy,a⟩|exact fB rfl rfl ⟨oX hq fy,a⟩
  ·repeat' (first|refine gq (op:= .neq) (b:=[]) (r:=false) rfl rfl (by simp[hZ,ht]) ?_|refine fT ?_|refine kW rfl rfl (λhc=>?_) (λhc=>?_)|refine kX rfl rfl (λhc=>?_) (λhc=>?_)|refine kR rfl rfl (λhc=>?_) (λhc=>?_)|refine kU rfl rfl (λhc=>?_) (λhc=>?_)|refine lf rfl rfl (λhc=>?_) (λhc=>?_)|refine kY rfl rfl (λhc=>?_) (λhc=>?_)|fail)
   all_goals first|exact fB rfl rfl ⟨pd hq fy,a⟩|exact fB rfl rfl ⟨oX hq fy,a⟩
 ·rw[if_pos fy]
  by_cases g:x.n.major=0
  ·by_cases m:x.n.minor=0
   ·rw[H.2 ⟨g,m⟩];refine NZ ?_;exact fB fx fx ⟨rfl,a⟩
   ·refine NZ ?_;exact fB fx fx ⟨by simp[jG,m],a⟩
  ·refine NZ ?_;exact fB fx fx ⟨by simp[jG,g],a⟩
end
end Go.Proofs.YtecaahegomdbbaaGreatDoor.gp
