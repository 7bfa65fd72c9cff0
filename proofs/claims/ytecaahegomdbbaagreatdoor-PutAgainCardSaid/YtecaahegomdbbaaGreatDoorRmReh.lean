/- Parts of the proof. -/
import Derived.Test.YtecaahegomdbbaaGreatDoorRmB0d
set_option linter.all false
set_option maxRecDepth 99999
set_option maxHeartbeats 0
namespace Go.Proofs.YtecaahegomdbbaaGreatDoor.gr
open Go.Proofs.Tryz
open Go.RowKit
variable {z:Int} {zs:ip Int} {i:Nat} {w:i5}
section
attribute [local irreducible] xs T
def Cl (k:kw) (w:i5) (A:Option Addr) (zs:ip Int):Prop:=0<zs.length->∃b o,A=some ⟨b,o,none⟩/\b<w.heap.size/\∀j u,(zs.map (Value.int k))[j]? =some u->w.cell? ⟨b,o+j,none⟩=some u
def Cl.at_ {k:kw} {A:Option Addr} (h:Cl k w A zs) (hi:i<zs.length):∃b o z,A=some ⟨b,o,none⟩/\b<w.heap.size/\zs[i]? =some z/\gc w b (o+i) (.int k z)/\zs.drop i=z::zs.drop (i+1):=pn h hi
def qW.op {v:i6} (h:qW w v zs):∃A c,v= .slice A zs.length c/\zs.length<=c/\c<=9223372036854775807/\Cl .i64 w A zs:=by
 obtain⟨A,c,h1,d,h3,f⟩:=h;exact⟨A,c,h1,d,h3,f⟩
def Sy {l:ip Int} {j:Nat} (h:j<l.length):l.getD j 0∈l:=by
 grind
def mg (z:Int):Nat:=if 0<z then 2^(12-z.toNat)else 0
def oO (zs:ip Int):Nat:=zs.countP λz=>decide (0<z)
theorem zR:∀(zs:ip Int) (c s:Int),vB zs->mD zs c s=mD [] (c+oO zs) (s+(zs.map mg).sum)
 |[],c,s,_=>by simp[oO]
 | z::r,c,s,h=>by
  have g:=h z (j0 ..);have d:vB r:=λy f=>h y fM
  rw[oS,if_neg fy]
  by_cases h0:0<z
  .rw[if_pos h0,zR r _ _ d]
   grind [oO,List.countP_cons_of_pos,mg,p2,Int.toNat]
  .rw[if_neg h0,zR r _ _ d]
   grind [oO,List.countP_cons_of_neg,mg]
def Vr {q:Nat} (h0:0<q) (h:q<=12):(mg (q:Int):Int)=p2 (12-(q:Int)):=by
 grind [mg,p2,Int.toNat_natCast]
theorem WN (z:Int):mg z<=4096:=by
 unfold mg;split
 .exact ly (A8 fU (Nat.sub_le _ _)) fU
 .omega
theorem DF:∀l:ip Int,(l.map mg).sum<=4096*l.length
 |[]=>by simp
 |z::r=>by
  have:=DF r
  grind [WN,List.length_cons]
def Ul (h:zs[i]? =some z):((zs.take (i+1)).map mg).sum=((zs.take i).map mg).sum+mg z:=by
 grind [List.take_add_one]
def ahO (zs:ip Int):Nat:=zs.count 1
def Te:∀zs:ip Int,vB zs->oO zs=1->((zs.map mg).sum=2048↔zs.count 1=1):=by
 intro zs d h1
 have key:∀zs:ip Int,vB zs->oO zs=0->(zs.map mg).sum=0/\zs.count 1=0:=by
  intro zs
  induction zs with
  |nil=>grind
  | cons z r g=>
   intro d h0;have u:=d z (j0 ..);unfold oO at h0;rw[Hv]at h0
   by_cases f:0<z
   .simp[f]at h0
   .have h1:=g (λy t=>d y fM) (by grind [oO,List.countP_eq_zero])
    grind [mg,List.count_cons_of_ne]
 induction zs with
 |nil=>simp[oO]at h1
 | cons z r g=>
  have u:=d z (j0 ..);have n:vB r:=λy t=>d y fM
  unfold oO at h1;rw[Hv]at h1;rw[jj,List.sum_cons]
  by_cases f:0<z
  .have m:oO r=0:=by unfold oO;simp[f]at h1;exact fM
   obtain⟨k1,k2⟩:=key r n m;rw[k1]
   by_cases e:z=1
   .grind [List.count_cons_self,mg]
   .rw[Lw fy,k2]
    have:mg z<=1024:=by
     unfold mg;rw[if_pos f];exact ly (A8 fU (show 12-z.toNat<=10 by omega)) fU
    omega
  grind [mg,List.count_cons_of_ne,oO]
def NH (h:zs[i]? =some z):oO (zs.take (i+1))=oO (zs.take i)+if 0<z then 1 else 0:=by
 grind [oO,List.take_add_one]
def Nx (h:zs[i]? =some z):(zs.take (i+1)).count 1=(zs.take i).count 1+if z=1 then 1 else 0:=by
 grind [List.take_add_one]
def UI (zs:ip Int):oO zs<=zs.length:=Wt
def vR (w:i5) (v:i6) (zs:ip Int) (J:qW w v zs) (T:zs.length<=1000):
  fQ prog 191 #[v] w λr w'=>r= .bool (pT zs)/\w=w':=by
 refine gD func191 fx fE ?_;obtain⟨A,c,rfl,Q,S,I⟩:=J.op;refine go ?_;refine gC (α:=Nat) (λi=>[(0,.slice A zs.length c),(3,.I (((zs.take i).map mg).sum:Int)),(4,.I (oO (zs.take i):Int)),(5,.I ((zs.take i).count 1:Int)),(6,.I (i:Int))]) (λi w'=>i<=zs.length/\w=w'/\vB (zs.take i)) (λi=>zs.length-i) 0 (sub ⟨rfl,rfl,rfl,rfl,rfl⟩) ⟨iF _,rfl,λz d=>by simp at d⟩ ?_;rintro i _ ⟨hi,rfl,m⟩;have D:=DF (zs.take i);have E:=UI (zs.take i);have B:=xC (a:=(1:Int)) (l:=zs.take i);rw[kv]at D E B
 by_cases fY:i<zs.length
 .obtain⟨b,o,z,rfl,_,d,R,_⟩:=I.at_ fY
  by_cases O:z<0\/12<z
  .have H:pT zs=false:=by
    cases hm:pT zs with
    |false=>rfl
    |true=>have:=Ae hm z fM;omega
   by_cases V:z<0
   .refine go ?_;exact fB fx fx ⟨by rw[H],rfl⟩
   .refine go ?_;exact fB fx fx ⟨by rw[H],rfl⟩
  .have N:vB (zs.take (i+1)):=λy g=>by
    rw[j2,d]at g;rcases iS.1 g with g|g
    .exact m y g
    grind
   have t1:=Ul d;have t2:=NH d;have t3:=Nx d
   have fin:∀Y,Sub [(0,.S b o zs.length c),(3,.I (((zs.take (i+1)).map mg).sum:Int)),(4,.I (oO (zs.take (i+1)):Int)),(5,.I ((zs.take (i+1)).count 1:Int)),(6,.I ((i:Int)+1))] Y->VR (λi:Nat=>[(0,.S b o zs.length c),(3,.I (((zs.take i).map mg).sum:Int)),(4,.I (oO (zs.take i):Int)),(5,.I ((zs.take i).count 1:Int)),(6,.I (i:Int))]) (λi w'=>i<=zs.length/\w=w'/\vB (zs.take i)) (λi=>zs.length-i) (zs.length-i) Y w:=
    λY hs=>⟨i+1,hs,fM,fM⟩
   by_cases F:0<z
   .rw[if_pos F]at t2;obtain⟨q,rfl⟩:=lZ (show 0<=z by omega);have G:=Vr (show 0<q by omega) fy;have U:=WN (q:Int)
    by_cases h1:(q:Int)=1
    .rw[if_pos h1]at t3
     repeat' (first|refine ya fx fx fx fy fy ?_|refine go1 ?_|fail)
     refine JV (r:=(mg (q:Int):Int)) fx fx fy (by grind [IntKind.bits]) (by
      rw[Int.one_mul];have x:p2 (12-(q:Int))=2^(12-(q:Int)).toNat:=rfl;rw[<-x,<-G]
      exact CY _ fy) ?_
     exact y17
    .rw[if_neg h1]at t3
     repeat' (first|refine ya fx fx fx fy fy ?_|refine go1 ?_|fail)
     refine JV (r:=(mg (q:Int):Int)) fx fx fy (by grind [IntKind.bits]) (by
      rw[Int.one_mul];have x:p2 (12-(q:Int))=2^(12-(q:Int)).toNat:=rfl;rw[<-x,<-G]
      exact CY _ fy) ?_
     exact y17
   .have K:mg z=0:=by unfold mg;rw[if_neg F]
    rw[if_neg F]at t2;rw[if_neg fy]at t3;rw[K]at t1;exact y17
 .obtain rfl:i=zs.length:=fy;rw[kh]at m D E B|-
  by_cases M:400<zs.length
  .refine go ?_;refine fB fx fx ⟨?_,rfl⟩
   grind [pT]
  .have hm:pT zs=mD [] (oO zs) ((zs.map mg).sum):=by
    unfold pT;rw[zR zs 0 0 m];simp;omega
   rw[ui]at hm;obtain⟨n,t⟩:∃n,n=oO zs:=⟨_,rfl⟩;obtain⟨sm,u⟩:∃s,s=(zs.map mg).sum:=⟨_,rfl⟩;obtain⟨co,C⟩:∃s,s=zs.count 1:=⟨_,rfl⟩;have f:=Te zs m;rw[<-t,<-u,<-C]at f;rw[<-t,<-u]at hm;rw[<-t]at E;rw[<-u]at D;rw[<-C]at B;rw[<-t,<-u,<-C]
   by_cases L:n=0
   .subst L;refine go ?_;exact fB fx fx fM
   by_cases n1:n=1
   .subst n1;have f:=f rfl
    by_cases c1:co=1
    .have:sm=2048:=f.2 c1;refine go ?_;exact fB fx fx fM
    .have:sm≠2048:=λe=>c1 (f.1 e)
     refine go ?_;refine fB fx fx ⟨?_,rfl⟩
     grind
   .by_cases s1:sm=4096
    .refine go ?_;exact fB fx fx ⟨by rw[hm,if_neg fy];simp[s1],rfl⟩
    .refine go ?_;refine fB fx fx ⟨?_,rfl⟩;rw[hm,if_neg fy];simp;omega
def Tn {s q:Nat} (hs:zs[s]? =some (q:Int)) (hq:0<q):oi zs s=gF zs q+(zs.take s).count (q:Int):=by
 grind [oi,Int.toNat_natCast]
def ng (zs:ip Int) (l i:Nat):ip Int:=(List.range zs.length).map λs=>if 0<zs.getD s 0/\(zs.getD s 0<l\/(zs.getD s 0=l/\s<i))then(oi zs s:Int)else 0
@[simp] theorem Zk (zs:ip Int) (l i:Nat):(ng zs l i).length=zs.length:=by simp[ng]
theorem KZ (zs:ip Int) (l:Nat):ng zs l zs.length=ng zs (l+1) 0:=by
 grind [ng,List.map_congr_left,List.length]
theorem Jx {l:Nat} (d:zs[i]? =some z) (h:z≠l):ng zs l (i+1)=ng zs l i:=by
 grind [ng,List.map_congr_left]
def M5 {l:Nat} (d:zs[i]? =some (l:Int)) (g:0<l):(ng zs l i).set i (oi zs i:Int)=ng zs l (i+1):=by
 have f:zs.getD i 0=l:=by rw[kW,d];rfl
 have hi:i<zs.length:=fM;apply xM
 .simp
 grind [ng]
def Oy (d:vB zs):ng zs 13 0=qi zs:=by
 unfold ng qi;refine x5 λs hs=>?_
 have f:=d _ (Sy (x2.1 hs))
 grind [oi,List.getElem?_eq_getElem]
theorem Jh (zs:ip Int):ng zs 1 0=List.replicate zs.length 0:=by
 apply xM<;>grind [List.ext_getElem,ng]
theorem UB.new {b n:Nat} (h:fW w b 50 (Array.replicate n (.int .u64 0))):UB w b (List.replicate n 0):=by
 grind [UB,List.map_replicate,List.toArray_replicate]
section
variable {hs:ip Nat} {H:i5->Prop} {full:Array li} {K:Env->i5->Prop} {ii:ip li} {Y:Env} {w:i5} {R:i9} {pos:String} {af:Array Edge}
def ad7 {t:i9} {x y:i7} {g:Nat} {l:ip Int} (d:UB w g l) (m:gh Y x=some (.pointer (some ⟨g,i,none⟩))) (n:gh Y y=some (.int .u64 z)) (ht:one t=true) (hi:i<l.length)
  (h:∀w',UB w' g (l.set i z)->Fr (· =g) w w'->xs prog fD fC hs H full K ii Y w') (hH:∀w',Fr (· =g) w w'->H w':=by intros;trivial):xs prog fD fC hs H full K (⟨none,.store t x y,R,pos,af,none⟩::ii) Y w:=by
 refine ir d m n ht fx (by simp;omega) (λw' u f=>h w' ?_ f) hH
 grind [UB,List.map_set]
end
def J8 (l:Int) (h:zs[i]? =some z):(zs.take (i+1)).count l=(zs.take i).count l+if z=l then 1 else 0:=by
 grind [List.take_add_one]
def FR (w:i5) (v:i6) (zs:ip Int) (D:qW w v zs) (hm:pT zs=true):
  fQ prog 192 #[v] w λr w'=>∃b,r= .S b 0 zs.length zs.length/\w.heap.size<=b/\UB w' b (qi zs)/\Ext w w':=by
 refine gD func192 fx fE ?_;have C:=K4 hm;have M:=D;obtain⟨A,c,rfl,X,Y,E⟩:=D.op;refine go ?_;refine fI fx fx (vR w _ zs M fy) (λr Q h1=>?_);obtain⟨rfl,rfl⟩:=h1;rw[hm];refine go ?_;refine WA GL fx fx fx fy fy fy (λQ t R N=>?_);rw[je]at t|-;obtain⟨g,K⟩:∃g,g=w.heap.size:=⟨_,rfl⟩;rw[<-K]at t N|-;refine go ?_;refine gC (α:=Nat) (λx=>[(0,.slice A zs.length c),(3,.S g 0 zs.length zs.length),(4,.int .u64 ((gF zs x+jZ zs x:Nat):Int)),(5,.I ((x+1:Nat):Int))]) (λx w'=>x<=12/\UB w' g (ng zs (x+1) 0)/\Ext w w') (λx=>12-x) 0 (sub ⟨rfl,rfl,rfl,rfl⟩) (by grind [Jh,UB.new]) ?_;rintro x af ⟨ad,G,S⟩
 by_cases ae:x<12
 .have Z:=sL zs C x fy;have aa:=sL zs C (x+1) fy;have ab:gF zs (x+1)=(gF zs x+jZ zs x)*2:=rfl;have L:jZ zs (x+1)=zs.count ((x+1:Nat):Int):=by unfold jZ;rw[if_neg fy]
  refine go ?_
  refine JV (r:=(gF zs (x+1):Int)) fx fx fU fU (by
   grind [gF,jZ,u64_in]) ?_
  refine go ?_;refine gC (α:=Nat) (λi=>[(0,.slice A zs.length c),(3,.S g 0 zs.length zs.length),(4,.int .u64 ((gF zs (x+1)+(zs.take i).count ((x+1:Nat):Int):Nat):Int)),(5,.I ((x+1:Nat):Int)),(6,.I (i:Int))]) (λi w'=>i<=zs.length/\UB w' g (ng zs (x+1) i)/\Ext w w') (λi=>zs.length-i) 0 (sub ⟨rfl,rfl,GD iB,rfl,rfl⟩) fM ?_;rintro i ag ⟨hi,u,F⟩;have I:(zs.take i).count ((x+1:Nat):Int)<=zs.length:=ly xC fM
  by_cases fY:i<zs.length
  .obtain⟨b,o,z,rfl,U,f,J,_⟩:=E.at_ fY;have V:=F.cell J;have d:=J8 ((x+1:Nat):Int) f
   by_cases he:z=((x+1:Nat):Int)
   .rw[if_pos he]at d;rw[he]at f;have y:oi zs i=gF zs (x+1)+(zs.take i).count ((x+1:Nat):Int):=Tn f fy;obtain⟨O,m⟩:∃n,n=gF zs (x+1)+(zs.take i).count ((x+1:Nat):Int):=⟨_,rfl⟩;rw[<-m];rw[<-m]at y;have B:=M5 f fy;rw[y]at B;have W:O<=4000400:=by rw[m];omega
    refine go ?_;refine ad7 u fx fx fx lX (λah H T=>?_);rw[iM,B]at H;refine go ?_;exact gl ⟨i+1,sub ⟨rfl,rfl,GD (by rw[d];omega),rfl,rfl⟩,by grind [Ext.te],fM⟩
   .rw[if_neg he]at d;refine go ?_;exact gl ⟨i+1,sub ⟨rfl,rfl,GD (by rw[d];rfl),rfl,rfl⟩,by grind [Jx],fM⟩
  .obtain rfl:i=zs.length:=fy;rw[kh]at I|-;rw[KZ]at u;refine go ?_;exact gl ⟨x+1,sub ⟨rfl,rfl,GD (by rw[L]),GD fy⟩,fM,fM⟩
 .obtain rfl:x=12:=fy;rw[Oy (Ae hm)]at G;refine go ?_;exact fB fx fx fM
namespace Rn
noncomputable def Xq (al:ip AV) (d:Mem):Rs:=Yo al λx=>Yr d x λl=>ji (Nat.ble (PI l) 1000) (bR d (Ga l))
def O4:td 191 Xq:=u2 (g:=λl d=>ji (Nat.ble (PI l) 1000) (bR d (Ga l))) (λ_ _=>rfl) λr v d w a e n m h=>by
 obtain⟨h1,h⟩:=fS h iQ;have h1:=jg h1;rw[w7]at h1;obtain⟨rfl,rfl⟩:=R3 h;refine⟨rfl,fQ.mono (vR w v _ m fM) λval w' f=>?_⟩;obtain⟨rfl,rfl⟩:=f;exact⟨λρ=>by rw[Ff];rfl,Fr.refl _ _⟩
def Ki:td 192 z7:=xq FR
