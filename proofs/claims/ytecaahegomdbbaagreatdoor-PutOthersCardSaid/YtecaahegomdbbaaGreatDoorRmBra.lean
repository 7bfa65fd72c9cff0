/- Parts of the proof. -/
import Derived.Test.YtecaahegomdbbaaGreatDoorRmB11
import Derived.Test.YtecaahegomdbbaaGreatDoorRmVr
set_option linter.all false
set_option maxRecDepth 99999
set_option maxHeartbeats 0
namespace Go.Proofs.YtecaahegomdbbaaGreatDoor.gr
open Go.Proofs.Tryz
open Go.RowKit
variable {s:fL}
section
open Wr
def zc:fL:=[111,116,104,101,114]
def GN:fL:=[111,116,104,101,114,47,102]
def oM (c:Int):hA:=⟨200000,[],c,false⟩
def Xk {c:Int} (h:0<=c):kf (oM c):=⟨rfl,rfl,h⟩
def IT (d n:Nd):fZ:=⟨[⟨[],0⟩,⟨zc,1⟩,⟨GN,2⟩],[gA Cu 1,d,n]⟩
def ot1:qQ (oM 0) jY zc (kV 1).n=0/\mq (oM 0) jY zc (kV 1).n=⟨[⟨[],0⟩,⟨zc,1⟩],[gA Cu 1,gz (kN 1) 1]⟩:=⟨by kernel_rfl,by kernel_rfl⟩
def ot2:qQ (oM 1) ⟨[⟨[],0⟩,⟨zc,1⟩],[gA Cu 1,gz (kN 1) 1]⟩ GN (kV 2).n=0/\mq (oM 1) ⟨[⟨[],0⟩,⟨zc,1⟩],[gA Cu 1,gz (kN 1) 1]⟩ GN (kV 2).n=IT (gz (kN 1) 2) (gz (kN 2) 2):=⟨by kernel_rfl,by kernel_rfl⟩
def Wa:fG (gz (kN 2) 2)=true:=by decide+kernel
def abc:kY (IT (gz (kN 1) 2) (gz (kN 2) 2)):=by
 have h1:=uM (m:=oM 0) (p:=zc) (n:=(kV 1).n) (hv sU) fU;rw[ot1.2]at h1;have d:=uM (m:=oM 1) (p:=GN) (n:=(kV 2).n) h1 fU;rwa[ot2.2]at d
def xS (s:fL):Nd:=(gy (gz (kN 2) 2) 3 s).1
def Fk (h:s.length<=100):(gy (gz (kN 2) 2) 3 s).2=0/\(xS s).kind=2/\fG (xS s)=true/\fF (xS s).data=s.length/\(s=[]->xS s=gz (kN 2) 2)/\(s≠[]->(xS s).size=3+(s.length:Int)/\(xS s).data=[⟨3,s⟩]):=by
 have d:fG (xS s)=true:=lR Wa 3 s
 have hw:gy (gz (kN 2) 2) 3 s=if s=[]then(gz (kN 2) 2,0)else({gz (kN 2) 2 with data:=[⟨3,s⟩],size:=max 0 (3+(s.length:Int))},0):=by
  unfold gy;rw[if_neg (by rw[Wa];decide),if_neg fy]
  by_cases hs:s=[]
  .rw[if_pos hs,if_pos hs]
  .rw[if_neg hs,if_neg hs];have f:qZ (gz (kN 2) 2).data 3 s=[⟨3,s⟩]:=rfl;rw[f,if_neg (by show ¬(4000<s.length+0\/16<1);omega)];rfl
 unfold xS at d|-;rw[hw]at d|-
 by_cases hs:s=[]
 .rw[if_pos hs]at d|-;exact⟨rfl,rfl,d,by rw[hs];rfl,λ_=>rfl,λh=>absurd hs h⟩
 .rw[if_neg hs]at d|-;exact⟨rfl,rfl,d,rfl,λh=>absurd h hs,λ_=>⟨by show max 0 (3+(s.length:Int))=_;omega,rfl⟩⟩
def ot3 (h:s.length<=100):qh (oM 2) (IT (gz (kN 1) 2) (gz (kN 2) 2)) GN 3 s=0/\oE (oM 2) (IT (gz (kN 1) 2) (gz (kN 2) 2)) GN 3 s=IT (gz (kN 1) 2) (gA (xS s) 3):=by
 obtain⟨u,v,w,x,_⟩:=Fk h;have d:(gj (oM 2)).2.2=oM 3:=rfl;have f:hD (IT (gz (kN 1) 2) (gz (kN 2) 2)) GN=(2,0):=by kernel_rfl
 have m:nodeAt (IT (gz (kN 1) 2) (gz (kN 2) 2)) 2=gz (kN 2) 2:=rfl;have hs:tV (oM 2) s=s:=rfl
 have he:ju (oM 3) (IT (gz (kN 1) 2) (gz (kN 2) 2)) GN (λn=>gy n 3 s)=0:=by
  unfold ju;rw[f,m,if_neg fU,if_neg (by show ¬(2:Int)=1;decide),if_neg (by show ¬(2:Int)≠2;decide)];dsimp only;rw[if_neg (λt=>t u)];refine if_neg ?_;rw[show gf (IT (gz (kN 1) 2) (gz (kN 2) 2)).ns=0 from rfl,show fF (gz (kN 2) 2).data=0 from rfl];show ¬(200000:Int)<0-0+((fF (xS s).data:Nat):Int)
  omega
 have g:¬((gj (oM 2)).1≠2/\(gj (oM 2)).2.1≠0):=λh=>h.2 rfl
 constructor
 .unfold qh;rw[if_neg g,hs,d,he,if_neg fU];rfl
 .unfold oE;rw[if_neg g,hs,d];unfold lK;rw[if_pos he,f,m];rfl
def aaL (h:s.length<=100):kY (IT (gz (kN 1) 2) (gA (xS s) 3)):=by
 have h1:=Dy (m:=oM 2) (p:=GN) (pos:=3) (s:=s) abc fU;rwa[(ot3 h).2]at h1
def Pw (s:fL):fZ:=IT (gA (gz (kN 1) 2) 5) (gA (xS s) 3)
def ot4 (h:s.length<=100):nr (oM 3) (IT (gz (kN 1) 2) (gA (xS s) 3)) zc (λ_=>0) (λn=>gA n 5)=0/\nL (oM 3) (IT (gz (kN 1) 2) (gA (xS s) 3)) zc (λ_=>0) (λn=>gA n 5)=Pw s/\kY (Pw s):=by
 have g:hD (IT (gz (kN 1) 2) (gA (xS s) 3)) zc=(1,0):=by kernel_rfl
 have he:nr (oM 3) (IT (gz (kN 1) 2) (gA (xS s) 3)) zc (λ_=>0) (λn=>gA n 5)=0:=by
  unfold nr;rw[show(gj (oM 3)).2.1=0 from rfl,if_neg (λh=>h rfl),g,if_neg (λh=>h rfl),if_neg (λh=>h rfl)];rfl
 have f:nL (oM 3) (IT (gz (kN 1) 2) (gA (xS s) 3)) zc (λ_=>0) (λn=>gA n 5)=Pw s:=by
  unfold nL;rw[if_pos he,g];rfl
 refine⟨he,f,?_⟩;have:=sT (m:=oM 3) (p:=zc) (e:=λ_=>0) (d:=λn=>gA n 5) (aaL h) λn t _ _=>⟨kK t fU,rfl⟩
 rwa[f]at this
def RT {t:fZ} (g:∀e∈t.es,∀x∈fX e.path,x∈hY):(∀e∈t.es,e.path≠zc)/\(∀e∈t.es,e.path≠GN)/\Ak (Pw s) t:=by
 have d:∀e∈t.es,e.path≠zc:=λe he h=>absurd (g e he zc (by rw[h];decide)) fU
 have f:∀e∈t.es,e.path≠GN:=λe he h=>absurd (g e he zc (by rw[h];decide)) fU
 refine⟨d,f,λe he h0=>?_⟩;show fK [⟨[],0⟩,⟨zc,1⟩,⟨GN,2⟩] e.path=none
 rw[fK,if_neg (λh=>h0 h.symm),fK,if_neg (λh=>d e he h.symm),fK,if_neg (λh=>f e he h.symm)];rfl
def TQ (h:s.length<=100):gf (Pw s).ns<=100:=by
 obtain⟨_,_,_,d,_⟩:=Fk h;have:gf (Pw s).ns=0+(0+(fF (xS s).data+0)):=rfl;omega
def S2 (h:s.length<=100):ph (gA (xS s) 3) 0 200=(if s=[]then[]else[0,0,0]++s,0):=by
 obtain⟨y,t,u,B,v,w⟩:=Fk h;have m:fG (gA (xS s) 3)=true:=kK u fU;have hk:(gA (xS s) 3).kind=2:=t;unfold ph;rw[if_neg (by rw[m,hk];decide)]
 by_cases hs:s=[]
 .rw[if_pos hs,v hs];rfl
 .obtain⟨g1,g2⟩:=w hs;have x:=rP.2 hs;have d:(gA (xS s) 3).size=3+(s.length:Int):=g1;have f:(gA (xS s) 3).data=[⟨3,s⟩]:=g2
  have g:z6 (gA (xS s) 3) 0 200=3+(s.length:Int):=by
   unfold z6;rw[d];omega
  rw[if_neg hs,if_neg (by rw[d];omega),g,f,show(3+(s.length:Int)).toNat=3+s.length by omega,Int.zero_add]
  have hc:gZ [⟨3,s⟩] 0 (3+(s.length:Int))=[⟨3,s⟩]:=vC λp n=>by
   rw[jS.1 n];exact⟨hs,by show(0:Int)<=3;decide,Ss _⟩
  rw[hc];show(vk (List.replicate (3+s.length) 0) 3 s,(0:Int))=([0,0,0]++s,0)
  unfold vk;rw[List.take_replicate,List.drop_replicate,Bg,tD fy,HD,p8 fy];exact congrArg (λl=>(l,(0:Int))) (mR _)
