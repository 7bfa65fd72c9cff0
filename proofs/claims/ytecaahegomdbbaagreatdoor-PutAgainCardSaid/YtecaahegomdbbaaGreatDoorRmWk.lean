/- Parts of the proof. -/
import Derived.Test.YtecaahegomdbbaaGreatDoorRmB4b
set_option linter.all false
set_option maxRecDepth 99999
set_option maxHeartbeats 0
namespace Go.Proofs.YtecaahegomdbbaaGreatDoor.gr
open Go.Proofs.Tryz
open Go.RowKit
section
attribute [local irreducible] xs T
def Nu (w:i5) (l:fL) (c:UInt8):fQ prog 93 #[.U l,.int .u8 (c.toNat:Int)] w λr w'=>r= .I (wH l c)/\w=w':=by
 refine gP func93 fx fE ?_;refine fA ?_;refine fI fx fx (As w l c) (λr d h1=>?_);exact y8
def adJ (l:fL):wH l 0<0↔(l.all λc=>decide (c≠0))=true:=by
 unfold wH;cases h:l.findIdx? (· ==0)with
 |none=>
  rw[V0]at h;refine⟨λ_=>ld.2 λc hc=>?_,λ_=>by dsimp only;omega⟩;have:=h c hc;simpa using this
 |some i=>
  obtain⟨hi,h1,d⟩:=WK.1 h;refine⟨λh=>by dsimp only at h;omega,λh=>?_⟩;have:=ld.1 h l[i] (uT hi);simp at h1 this;exact absurd h1 this
def nY (w:i5) (x:gG) (G:im w x) (Q:fF x.n.data<=1000000):fQ prog 44 #[.agg (gB x).toArray] w λr w'=>r= .bool (fG x.n)/\Ext w w':=by
 refine gD func44 fx fE ?_;refine fA ?_;refine hP fx (λC N B Z=>?_);have D:fW C w.heap.size 37 (gB x).toArray:=N;obtain⟨A,c,L,X,Y,W⟩:=G.d.op hB;have k0:gc C w.heap.size 0 (.I x.n.kind):=D.cell 0;have T:∀j u,(qV x)[j]? =some u->C.cell? ⟨w.heap.size,0+1+j,none⟩=some u:=λj u hu=>by rw[iM,D.cell];exact Eg hu
 by_cases R:¬1<=x.n.kind
 .refine fA ?_;exact fB fx fx ⟨by unfold fG;rw[if_neg fy,if_neg fy,if_neg fy,if_neg fy];simp,B⟩
 have R:1<=x.n.kind:=fy
 by_cases S:¬x.n.kind<=6
 .refine fA ?_;exact fB fx fx ⟨by unfold fG;rw[if_neg fy,if_neg fy,if_neg fy,if_neg fy];simp,B⟩
 have S:x.n.kind<=6:=fy;refine fA ?_;refine hV (cs:=qV x) fx fx T ?_;refine fA ?_;refine fH fx fx (vU C x (G.ext B)) (λr g M=>?_);obtain⟨rfl,J⟩:=M;have f:=B.t J;unfold fG;cases hm:hd x.n with
 |false=>
  refine fA ?_;exact fB fx fx ⟨by simp,f⟩
 |true=>
 rw[iV];have y:fW g w.heap.size 37 (gB x).toArray:=D.ext J;have k0:gc g w.heap.size 0 (.I x.n.kind):=y.cell 0;have k7:gc g w.heap.size 7 (.I x.n.size):=y.cell 7;have k8:g.cell? ⟨w.heap.size,8,none⟩=some (.slice A x.n.data.length c):=by rw[<-L];exact y.cell 8
 have k9:gc g w.heap.size 9 (.U x.n.target):=y.cell 9;have GS:gc g w.heap.size 10 (.I x.n.major):=y.cell 10;have IJ:gc g w.heap.size 11 (.I x.n.minor):=y.cell 11;have K:x.n.data.length=0↔x.n.data=[]:=zT;have U:iv x.n=true↔x.n.size=0/\x.n.data.length=0:=by simp only[iv,iU,decide_eq_true_eq,K]
 have ut:jz x.n=decide (x.n.target=[]):=rfl;have I:jL x.n=true↔x.n.major=0/\x.n.minor=0:=by simp only[jL,iU,decide_eq_true_eq]
 by_cases g2:x.n.kind=2
 .rw[if_neg fy,if_pos g2]
  by_cases ht:x.n.target=[]
  .rw[ut,decide_eq_true ht]
   by_cases m:x.n.major=0
   .by_cases v:x.n.minor=0
    .rw[I.2 ⟨m,v⟩,L1,L1];refine Nh ?_;refine gR (t:=37) y fx fx ?_;refine fA ?_;refine fH fx fx (Es g x (G.ext f) Q) (λr V h3=>?_);obtain⟨rfl,O⟩:=h3;refine fA ?_;exact fB fx fx ⟨rfl,f.t O⟩
    .refine Nh ?_;exact fB fx fx ⟨by simp[jL,v],f⟩
   .refine Nh ?_;exact fB fx fx ⟨by simp[jL,m],f⟩
  .repeat' (first|refine gk (op:= .neq) (b:=[]) (r:=true) fx fx (by simp[hG,ht]) ?_|refine fT ?_|fail)
   exact fB fx fx ⟨by simp[jz,ht],f⟩
 by_cases H:¬x.n.size=0
 .have e:iv x.n=false:=by simp[iv,H]
  repeat' (first|refine fT ?_|refine lj fx fx (λhc=>?_) (λhc=>?_)|refine lg fx fx (λhc=>?_) (λhc=>?_)|refine lq fx fx (λhc=>?_) (λhc=>?_)|refine lh fx fx (λhc=>?_) (λhc=>?_)|refine lv fx fx (λhc=>?_) (λhc=>?_)|refine lf fx fx (λhc=>?_) (λhc=>?_)|fail)
  all_goals
   refine fB fx fx ⟨?_,f⟩;rw[if_neg g2,e];simp
 have H:x.n.size=0:=fy
 by_cases F:¬x.n.data.length=0
 .have e:iv x.n=false:=by simp only[iv,decide_eq_false (λe=>F (K.2 e)),tl]
  repeat' (first|refine fT ?_|refine lj fx fx (λhc=>?_) (λhc=>?_)|refine lg fx fx (λhc=>?_) (λhc=>?_)|refine lq fx fx (λhc=>?_) (λhc=>?_)|refine lh fx fx (λhc=>?_) (λhc=>?_)|refine lv fx fx (λhc=>?_) (λhc=>?_)|refine lf fx fx (λhc=>?_) (λhc=>?_)|fail)
  all_goals
   refine fB fx fx ⟨?_,f⟩;rw[if_neg g2,e];simp
 have F:x.n.data.length=0:=fy;rw[if_neg g2,U.2 ⟨H,F⟩];simp only[iV]
 by_cases g3:x.n.kind=3
 .rw [if_neg fy,if_pos g3]
  by_cases m:x.n.major=0
  .by_cases v:x.n.minor=0
   .rw [I.2 ⟨m,v⟩,iV]
    by_cases t1:1<=x.n.target.length
    .by_cases t2:x.n.target.length<=200
     .rw[decide_eq_true t1,decide_eq_true t2,iV,iV];have hi:=adJ x.n.target;refine l4 ?_;refine fH fx fx (Nu g x.n.target 0) (λr V h3=>?_);obtain⟨rfl,rfl⟩:=h3;cases E:(x.n.target.all λc=>decide (c≠0))with
      |true=>
       have hi:=hi.2 E;refine fA ?_;exact fB fx fx ⟨rfl,f⟩
      |false=>
       have hi:¬wH x.n.target 0<0:=λh=>by rw[hi.1 h]at E;cases E
       refine fA ?_;exact fB fx fx ⟨rfl,f⟩
     .refine l4 ?_;exact fB fx fx ⟨by simp[t2],f⟩
    .refine l4 ?_;exact fB fx fx ⟨by simp[t1],f⟩
   .refine fA ?_;exact fB fx fx ⟨by simp[jL,v],f⟩
  .refine fA ?_;exact fB fx fx ⟨by simp[jL,m],f⟩
 rw[if_neg g3]
 by_cases ht:¬x.n.target=[]
 .repeat' (first|refine gk (op:= .neq) (b:=[]) (r:=true) fx fx (by simp[hG,ht]) ?_|refine fT ?_|refine lj fx fx (λhc=>?_) (λhc=>?_)|refine lg fx fx (λhc=>?_) (λhc=>?_)|refine lq fx fx (λhc=>?_) (λhc=>?_)|refine lh fx fx (λhc=>?_) (λhc=>?_)|refine lv fx fx (λhc=>?_) (λhc=>?_)|refine lf fx fx (λhc=>?_) (λhc=>?_)|fail)
  all_goals
   refine fB fx fx ⟨?_,f⟩;rw[ut,decide_eq_false ht];simp
 have ht:x.n.target=[]:=Ab.1 ht;rw[ut,decide_eq_true ht];simp only[iV]
 by_cases g4:x.n.kind=4\/x.n.kind=5
 .rw[if_neg fy,if_pos g4];have hq:(decide (0<=x.n.major)&&decide (x.n.major<=65535)&&decide (0<=x.n.minor)&&decide (x.n.minor<=65535))=true↔0<=x.n.major/\x.n.major<=65535/\0<=x.n.minor/\x.n.minor<=65535:=by simp only[iU,decide_eq_true_eq,and_assoc]
  rcases g4 with g4|g4
  .repeat' (first|refine gk (op:= .neq) (b:=[]) (r:=false) fx fx (by simp[hG,ht]) ?_|refine fT ?_|refine lj fx fx (λhc=>?_) (λhc=>?_)|refine lg fx fx (λhc=>?_) (λhc=>?_)|refine lq fx fx (λhc=>?_) (λhc=>?_)|refine lh fx fx (λhc=>?_) (λhc=>?_)|refine lv fx fx (λhc=>?_) (λhc=>?_)|refine lf fx fx (λhc=>?_) (λhc=>?_)|fail)
   all_goals first|exact fB rfl rfl ⟨pe hq fy,f⟩|exact fB rfl rfl ⟨pt hq fy,f⟩
  .repeat' (first|refine gk (op:= .neq) (b:=[]) (r:=false) fx fx (by simp[hG,ht]) ?_|refine fT ?_|refine lj fx fx (λhc=>?_) (λhc=>?_)|refine lg fx fx (λhc=>?_) (λhc=>?_)|refine lq fx fx (λhc=>?_) (λhc=>?_)|refine lh fx fx (λhc=>?_) (λhc=>?_)|refine lv fx fx (λhc=>?_) (λhc=>?_)|refine lf fx fx (λhc=>?_) (λhc=>?_)|fail)
   all_goals first|exact fB rfl rfl ⟨pe hq fy,f⟩|exact fB rfl rfl ⟨pt hq fy,f⟩
 .rw[if_pos fy]
  by_cases m:x.n.major=0
  .by_cases v:x.n.minor=0
   .rw[I.2 ⟨m,v⟩];refine Nh ?_;exact fB fx fx ⟨rfl,f⟩
   .refine Nh ?_;exact fB fx fx ⟨by simp[jL,v],f⟩
  .refine Nh ?_;exact fB fx fx ⟨by simp[jL,m],f⟩
