/- Parts of the proof. -/
import Derived.Test.YtecaahegomdbbaaGreatDoorRfB0d
set_option linter.all false
set_option maxRecDepth 100000
set_option maxHeartbeats 64000000
namespace Go.Proofs.YtecaahegomdbbaaGreatDoor.gp
open Go.Proofs.Tryz
open Go.RowKit
variable {z:Int} {zs:List Int} {i:Nat} {w:World}
section
attribute [local irreducible] xs T
def Cl (k:IntKind) (w:World) (A:Option Addr) (zs:List Int):Prop:=0<zs.length->∃b o,A=some ⟨b,o,none⟩/\b<w.heap.size/\∀j u,(zs.map (Value.int k))[j]? =some u->w.cell? ⟨b,o+j,none⟩=some u
theorem Cl.at_ {k:IntKind} {A:Option Addr} (h:Cl k w A zs) (hi:i<zs.length):∃b o z,A=some ⟨b,o,none⟩/\b<w.heap.size/\zs[i]? =some z/\w.cell? ⟨b,o+i,none⟩=some (.int k z)/\zs.drop i=z::zs.drop (i+1):=qj h hi
theorem qZ.op {v:Value} (h:qZ w v zs):∃A c,v= .slice A zs.length c/\zs.length<=c/\c<=9223372036854775807/\Cl .i64 w A zs:=by
 obtain⟨A,c,h1,a,d,f⟩:=h;exact⟨A,c,h1,a,d,f⟩
theorem Px {l:List Int} {j:Nat} (h:j<l.length):l.getD j 0∈l:=by
 grind
def mg (z:Int):Nat:=if 0<z then 2^(12-z.toNat)else 0
def oG (zs:List Int):Nat:=zs.countP λz=>decide (0<z)
theorem yW:∀(zs:List Int) (c s:Int),u2 zs->lQ zs c s=lQ [] (c+oG zs) (s+(zs.map mg).sum)
 |[],c,s,_=>by simp[oG]
 | z::r,c,s,h=>by
  have f:=h z (jQ ..);have a:u2 r:=λy d=>h y fS
  rw[oM,if_neg fy]
  by_cases h0:0<z
  ·rw[if_pos h0,yW r _ _ a]
   grind [oG,List.countP_cons_of_pos,mg,p2,Int.toNat]
  ·rw[if_neg h0,yW r _ _ a]
   grind [oG,List.countP_cons_of_neg,mg]
theorem T6 {q:Nat} (h0:0<q) (h:q<=12):(mg (q:Int):Int)=p2 (12-(q:Int)):=by
 grind [mg,p2,Int.toNat_natCast]
theorem We (z:Int):mg z<=4096:=by
 unfold mg;split
 ·exact mn (Ae fV (Nat.sub_le _ _)) fV
 ·omega
theorem BW:∀l:List Int,(l.map mg).sum<=4096*l.length
 |[]=>by simp
 |z::r=>by
  have:=BW r
  grind [We,List.length_cons]
theorem Ux (h:zs[i]? =some z):((zs.take (i+1)).map mg).sum=((zs.take i).map mg).sum+mg z:=by
 grind [List.take_add_one]
def agG (zs:List Int):Nat:=zs.count 1
theorem Sr:∀zs:List Int,u2 zs->oG zs=1->((zs.map mg).sum=2048↔zs.count 1=1):=by
 intro zs a h1
 have key:∀zs:List Int,u2 zs->oG zs=0->(zs.map mg).sum=0/\zs.count 1=0:=by
  intro zs
  induction zs with
  |nil=>grind
  | cons z r f=>
   intro a h0;have s:=a z (jQ ..);unfold oG at h0;rw[GJ]at h0
   by_cases d:0<z
   ·simp[d]at h0
   ·have h1:=f (λy n=>a y fS) (by grind [oG,List.countP_eq_zero])
    grind [mg,List.count_cons_of_ne]
 induction zs with
 |nil=>simp[oG]at h1
 | cons z r f=>
  have s:=a z (jQ ..);have m:u2 r:=λy n=>a y fS
  unfold oG at h1;rw[GJ]at h1;rw[jm,List.sum_cons]
  by_cases d:0<z
  ·have g:oG r=0:=by unfold oG;simp[d]at h1;exact fS
   obtain⟨k1,k2⟩:=key r m g;rw[k1]
   by_cases e:z=1
   ·grind [List.count_cons_self,mg]
   ·rw[L6 fy,k2]
    have:mg z<=1024:=by
     unfold mg;rw[if_pos d];exact mn (Ae fV (show 12-z.toNat<=10 by omega)) fV
    omega
  grind [mg,List.count_cons_of_ne,oG]
theorem M6 (h:zs[i]? =some z):oG (zs.take (i+1))=oG (zs.take i)+if 0<z then 1 else 0:=by
 grind [oG,List.take_add_one]
theorem NN (h:zs[i]? =some z):(zs.take (i+1)).count 1=(zs.take i).count 1+if z=1 then 1 else 0:=by
 grind [List.take_add_one]
theorem Sv (zs:List Int):oG zs<=zs.length:=VF
theorem uL (w:World) (v:Value) (zs:List Int) (J:qZ w v zs) (T:zs.length<=1000):
  fL prog 191 #[v] w λr w'=>r= .bool (pv zs)/\w=w':=by
 refine gr func191 fx fF ?_;obtain⟨A,c,rfl,Q,S,I⟩:=J.op;refine go ?_;refine gA (α:=Nat) (λi=>[(0,.slice A zs.length c),(3,.int .i64 (((zs.take i).map mg).sum:Int)),(4,.int .i64 (oG (zs.take i):Int)),(5,.int .i64 ((zs.take i).count 1:Int)),(6,.int .i64 (i:Int))]) (λi w'=>i<=zs.length/\w=w'/\u2 (zs.take i)) (λi=>zs.length-i) 0 (sub ⟨rfl,rfl,rfl,rfl,rfl⟩) ⟨iy _,rfl,λz d=>by simp at d⟩ ?_;rintro i _ ⟨hi,rfl,m⟩;have D:=BW (zs.take i);have E:=Sv (zs.take i);have B:=wY (a:=(1:Int)) (l:=zs.take i);rw[kt]at D E B
 by_cases fW:i<zs.length
 ·obtain⟨b,o,z,rfl,_,d,R,_⟩:=I.at_ fW
  by_cases O:z<0∨12<z
  ·have H:pv zs=false:=by
    cases hm:pv zs with
    |false=>rfl
    |true=>have:=zk hm z fS;omega
   by_cases V:z<0
   ·refine go ?_;exact fB fx fx ⟨by rw[H],rfl⟩
   ·refine go ?_;exact fB fx fx ⟨by rw[H],rfl⟩
  ·have N:u2 (zs.take (i+1)):=λy g=>by
    rw[kO,d]at g;rcases iK.1 g with g|g
    ·exact m y g
    grind
   have t1:=Ux d;have t2:=M6 d;have t3:=NN d
   have fin:∀env,Sub [(0,.slice (some ⟨b,o,none⟩) zs.length c),(3,.int .i64 (((zs.take (i+1)).map mg).sum:Int)),(4,.int .i64 (oG (zs.take (i+1)):Int)),(5,.int .i64 ((zs.take (i+1)).count 1:Int)),(6,.int .i64 ((i:Int)+1))] env->V7 (λi:Nat=>[(0,.slice (some ⟨b,o,none⟩) zs.length c),(3,.int .i64 (((zs.take i).map mg).sum:Int)),(4,.int .i64 (oG (zs.take i):Int)),(5,.int .i64 ((zs.take i).count 1:Int)),(6,.int .i64 (i:Int))]) (λi w'=>i<=zs.length/\w=w'/\u2 (zs.take i)) (λi=>zs.length-i) (zs.length-i) env w:=
    λenv hs=>⟨i+1,hs,fS,fS⟩
   by_cases F:0<z
   ·rw[if_pos F]at t2;obtain⟨q,rfl⟩:=lO (show 0<=z by omega);have G:=T6 (show 0<q by omega) fy;have U:=We (q:Int)
    by_cases h1:(q:Int)=1
    ·rw[if_pos h1]at t3
     repeat' (first|refine xG rfl rfl rfl fy fy ?_|refine go1 ?_|fail)
     refine Jt (r:=(mg (q:Int):Int)) fx fx fy (by grind [IntKind.bits]) (by
      rw[Int.one_mul];have x:p2 (12-(q:Int))=2^(12-(q:Int)).toNat:=rfl;rw[←x,←G]
      exact Cx _ fy) ?_
     exact y17
    ·rw[if_neg h1]at t3
     repeat' (first|refine xG rfl rfl rfl fy fy ?_|refine go1 ?_|fail)
     refine Jt (r:=(mg (q:Int):Int)) fx fx fy (by grind [IntKind.bits]) (by
      rw[Int.one_mul];have x:p2 (12-(q:Int))=2^(12-(q:Int)).toNat:=rfl;rw[←x,←G]
      exact Cx _ fy) ?_
     exact y17
   ·have K:mg z=0:=by unfold mg;rw[if_neg F]
    rw[if_neg F]at t2;rw[if_neg fy]at t3;rw[K]at t1;exact y17
 ·obtain rfl:i=zs.length:=fy;rw[km]at m D E B⊢
  by_cases M:400<zs.length
  ·refine go ?_;refine fB fx fx ⟨?_,rfl⟩
   grind [pv]
  ·have hm:pv zs=lQ [] (oG zs) ((zs.map mg).sum):=by
    unfold pv;rw[yW zs 0 0 m];simp;omega
   rw[tM]at hm;obtain⟨n,t⟩:∃n,n=oG zs:=⟨_,rfl⟩;obtain⟨sm,u⟩:∃s,s=(zs.map mg).sum:=⟨_,rfl⟩;obtain⟨co,C⟩:∃s,s=zs.count 1:=⟨_,rfl⟩;have f:=Sr zs m;rw[←t,←u,←C]at f;rw[←t,←u]at hm;rw[←t]at E;rw[←u]at D;rw[←C]at B;rw[←t,←u,←C]
   by_cases L:n=0
   ·subst L;refine go ?_;exact fB fx fx fS
   by_cases n1:n=1
   ·subst n1;have f:=f rfl
    by_cases c1:co=1
    ·have:sm=2048:=f.2 c1;refine go ?_;exact fB fx fx fS
    ·have:sm≠2048:=λe=>c1 (f.1 e)
     refine go ?_;refine fB fx fx ⟨?_,rfl⟩
     grind
   ·by_cases s1:sm=4096
    ·refine go ?_;exact fB fx fx ⟨by rw[hm,if_neg fy];simp[s1],rfl⟩
    ·refine go ?_;refine fB fx fx ⟨?_,rfl⟩;rw[hm,if_neg fy];simp;omega
theorem TQ {s q:Nat} (hs:zs[s]? =some (q:Int)) (hq:0<q):oy zs s=gw zs q+(zs.take s).count (q:Int):=by
 grind [oy,Int.toNat_natCast]
def mU (zs:List Int) (l i:Nat):List Int:=(List.range zs.length).map λs=>if 0<zs.getD s 0/\(zs.getD s 0<l∨(zs.getD s 0=l/\s<i))then(oy zs s:Int)else 0
@[simp] theorem YF (zs:List Int) (l i:Nat):(mU zs l i).length=zs.length:=by simp[mU]
theorem J4 (zs:List Int) (l:Nat):mU zs l zs.length=mU zs (l+1) 0:=by
 grind [mU,List.map_congr_left,List.length]
theorem Jn {l:Nat} (a:zs[i]? =some z) (h:z≠l):mU zs l (i+1)=mU zs l i:=by
 grind [mU,List.map_congr_left]
theorem NY {l:Nat} (a:zs[i]? =some (l:Int)) (f:0<l):(mU zs l i).set i (oy zs i:Int)=mU zs l (i+1):=by
 have d:zs.getD i 0=l:=by rw[kv,a];rfl
 have hi:i<zs.length:=fS;apply wM
 ·simp
 grind [mU]
theorem Ni (a:u2 zs):mU zs 13 0=p4 zs:=by
 unfold mU p4;refine zC λs hs=>?_
 have d:=a _ (Px (xK.1 hs))
 grind [oy,List.getElem?_eq_getElem]
theorem IA (zs:List Int):mU zs 1 0=List.replicate zs.length 0:=by
 apply wM<;>grind [List.ext_getElem,mU]
theorem UB.new {b n:Nat} (h:fU w b 50 (Array.replicate n (.int .u64 0))):UB w b (List.replicate n 0):=by
 grind [UB,List.map_replicate,List.toArray_replicate]
section
variable {hs:List Nat} {H:World->Prop} {full:Array Oper} {K:Env->World->Prop} {rest:List Oper} {env:Env} {w:World} {ty:TypeId} {pos:String} {af:Array Edge}
theorem ac2 {t:TypeId} {x y:Operand} {g:Nat} {l:List Int} (a:UB w g l) (f:gh env x=some (.pointer (some ⟨g,i,none⟩))) (m:gh env y=some (.int .u64 z)) (ht:one t=true) (hi:i<l.length)
  (h:∀w',UB w' g (l.set i z)->Fr (· =g) w w'->xs prog fD fC hs H full K rest env w') (hH:∀w',Fr (· =g) w w'->H w':=by intros;trivial):xs prog fD fC hs H full K (⟨none,.store t x y,ty,pos,af,none⟩::rest) env w:=by
 refine iq a f m ht fx (by simp;omega) (λw' n d=>h w' ?_ d) hH
 grind [UB,List.map_set]
end
theorem Jl (l:Int) (h:zs[i]? =some z):(zs.take (i+1)).count l=(zs.take i).count l+if z=l then 1 else 0:=by
 grind [List.take_add_one]
theorem FL (w:World) (v:Value) (zs:List Int) (B:qZ w v zs) (hm:pv zs=true):
  fL prog 192 #[v] w λr w'=>∃b,r= .slice (some ⟨b,0,none⟩) zs.length zs.length/\w.heap.size<=b/\UB w' b (p4 zs)/\Ext w w':=by
 refine gr func192 fx fF ?_;have y:=K1 hm;have K:=B;obtain⟨A,c,rfl,V,W,C⟩:=B.op;refine go ?_;refine fI fx fx (uL w _ zs K fy) (λr N h1=>?_);obtain⟨rfl,rfl⟩:=h1;rw[hm];refine go ?_;refine XQ Fu fx fx fx fy fy fy (λN m O L=>?_);rw[jf]at m⊢;obtain⟨g,I⟩:∃g,g=w.heap.size:=⟨_,rfl⟩;rw[←I]at m L⊢;refine go ?_;refine gA (α:=Nat) (λx=>[(0,.slice A zs.length c),(3,.slice (some ⟨g,0,none⟩) zs.length zs.length),(4,.int .u64 ((gw zs x+jO zs x:Nat):Int)),(5,.int .i64 ((x+1:Nat):Int))]) (λx w'=>x<=12/\UB w' g (mU zs (x+1) 0)/\Ext w w') (λx=>12-x) 0 (sub ⟨rfl,rfl,rfl,rfl⟩) (by grind [IA,UB.new]) ?_;rintro x ad ⟨aa,E,Q⟩
 by_cases ab:x<12
 ·have X:=sj zs y x fy;have Y:=sj zs y (x+1) fy;have Z:gw zs (x+1)=(gw zs x+jO zs x)*2:=rfl;have J:jO zs (x+1)=zs.count ((x+1:Nat):Int):=by unfold jO;rw[if_neg fy]
  refine go ?_
  refine Jt (r:=(gw zs (x+1):Int)) fx fx fV fV (by
   grind [gw,jO,u64_in]) ?_
  refine go ?_;refine gA (α:=Nat) (λi=>[(0,.slice A zs.length c),(3,.slice (some ⟨g,0,none⟩) zs.length zs.length),(4,.int .u64 ((gw zs (x+1)+(zs.take i).count ((x+1:Nat):Int):Nat):Int)),(5,.int .i64 ((x+1:Nat):Int)),(6,.int .i64 (i:Int))]) (λi w'=>i<=zs.length/\UB w' g (mU zs (x+1) i)/\Ext w w') (λi=>zs.length-i) 0 (sub ⟨rfl,rfl,Ft ir,rfl,rfl⟩) fS ?_;rintro i ae ⟨hi,s,D⟩;have G:(zs.take i).count ((x+1:Nat):Int)<=zs.length:=mn wY fS
  by_cases fW:i<zs.length
  ·obtain⟨b,o,z,rfl,S,d,H,_⟩:=C.at_ fW;have T:=D.cell H;have a:=Jl ((x+1:Nat):Int) d
   by_cases he:z=((x+1:Nat):Int)
   ·rw[if_pos he]at a;rw[he]at d;have t:oy zs i=gw zs (x+1)+(zs.take i).count ((x+1:Nat):Int):=TQ d fy;obtain⟨M,f⟩:∃n,n=gw zs (x+1)+(zs.take i).count ((x+1:Nat):Int):=⟨_,rfl⟩;rw[←f];rw[←f]at t;have u:=NY d fy;rw[t]at u;have U:M<=4000400:=by rw[f];omega
    refine go ?_;refine ac2 s fx fx fx mu (λaf F R=>?_);rw[iC,u]at F;refine go ?_;exact gn ⟨i+1,sub ⟨rfl,rfl,Ft (by rw[a];omega),rfl,rfl⟩,by grind [Ext.te],fS⟩
   ·rw[if_neg he]at a;refine go ?_;exact gn ⟨i+1,sub ⟨rfl,rfl,Ft (by rw[a];rfl),rfl,rfl⟩,by grind [Jn],fS⟩
  ·obtain rfl:i=zs.length:=fy;rw[km]at G⊢;rw[J4]at s;refine go ?_;exact gn ⟨x+1,sub ⟨rfl,rfl,Ft (by rw[J]),Ft fy⟩,fS,fS⟩
 ·obtain rfl:x=12:=fy;rw[Ni (zk hm)]at E;refine go ?_;exact fB fx fx fS
namespace Rn
noncomputable def U7 (al:List AV) (a:Mem):Rs:=Xh al λx=>WY a x λl=>jb (Nat.ble (RC l) 1000) (bR a (FW l))
theorem Pm:sN 191 U7:=uZ (g:=λl d=>jb (Nat.ble (RC l) 1000) (bR d (FW l))) (λ_ _=>rfl) λr v d w a e n m h=>by
 obtain⟨h1,h⟩:=fO h iI;have h1:=iY h1;rw[wB]at h1;obtain⟨rfl,rfl⟩:=Rf h;refine⟨rfl,fL.mono (uL w v _ m fS) λval w' f=>?_⟩;obtain⟨rfl,rfl⟩:=f;exact⟨λρ=>by rw[Ew];rfl,Fr.refl _ _⟩
theorem JL:sN 192 yz:=w4 FL
end Rn
end
end Go.Proofs.YtecaahegomdbbaaGreatDoor.gp
