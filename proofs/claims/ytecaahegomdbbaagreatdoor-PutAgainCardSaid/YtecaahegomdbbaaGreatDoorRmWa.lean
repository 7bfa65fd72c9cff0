/- Parts of the proof. -/
import Derived.Test.YtecaahegomdbbaaGreatDoorRmB0a
set_option linter.all false
set_option maxRecDepth 99999
set_option maxHeartbeats 0
namespace Go.Proofs.YtecaahegomdbbaaGreatDoor.gr
open Go.Proofs.Tryz
open Go.RowKit
section
attribute [local irreducible] xs T
def wH (l:fL) (c:UInt8):Int:=match l.findIdx? (· ==c)with
 |some i=>i
 |none=> -1
def firstIdx_eq (l:fL) (c:UInt8):firstIdx (su l) c=wH l c:=by
 unfold firstIdx wH;rw[ky]
 have d:∀i,i<l.length->(su l)[i]! =l.getD i default:=by
  intro i hi;have f:i<(su l).size:=by rw[ky];exact hi
  rw[getElem!_pos (su l) i f];show(su l).data[i]'f=_
  simp[su,hi]
 cases h:l.findIdx? (· ==c)with
 | none=>
  have:(List.range l.length).find? (λi=>(su l)[i]! ==c)=none:=by
   rw[List.find?_eq_none];intro i hi;have hi:=x2.1 hi;rw[d i hi];rw[V0]at h;have:=h (l[i]) (uT hi);rw[kW,j9 hi];simpa using this
  rw[this]
 | some i=>
  obtain⟨hi,h1,g⟩:=WK.1 h
  have:(List.range l.length).find? (λi=>(su l)[i]! ==c)=some i:=by
   rw[List.find?_range_eq_some];refine⟨?_,x2.2 hi,λj m=>?_⟩
   .rw[d i hi,kW,j9 hi];exact h1
   .rw[d j fy,kW,j9 fy];have:=g j m;simpa using this
  rw[this]
theorem Fh:∀l:fL,wH l 47=if(ik l).2.2 then((ik l).1.length:Int)else-1
 |[]=>rfl
 | c::r=>by
  have d:=Fh r;unfold wH at d|-;rw[Rr]
  by_cases hc:c=47
  .subst hc;simp[ik]
  .have g:(c==47)=false:=by simpa using hc
   simp only[ik,if_neg hc,g];cases h:r.findIdx? (· ==47)with
   |none=>rw[h]at d;simp only[PW]at d|-;split at d<;>rename_i f<;>simp[f]<;>omega
   |some i=>rw[h]at d;simp only[tT]at d|-;split at d<;>rename_i f<;>simp[f]<;>omega
def As (w:i5) (l:fL) (c:UInt8):fQ prog 157 #[.U l,.int .u8 (c.toNat:Int)] w λr w'=>r= .I (wH l c)/\w=w':=by
 refine gP func157 fx fE ?_;refine fA ?_;refine U9 (e:=Extern.BytealgIndexByte.indexByte) func225 fE fE fE fE fx (run_indexByte_string (su l) _ w) ?_;refine fA ?_;refine fB fx fx ⟨?_,rfl⟩;rw[<-firstIdx_eq];simp
def Hf (w:i5) (l:fL) (c:UInt8):fQ prog 270 #[.U l,.U [c]] w λr w'=>r= .I (wH l c)/\w=w':=by
 refine gP func270 fx fE ?_;refine l4 ?_
 by_cases hc:[c]=l
 .subst hc
  repeat' (first|refine gk (op:= .eql) (r:=true) fx fx (by simp[hG]) ?_|refine ie fx fx ?_|refine iE fx fx ?_|refine fT ?_|fail)
  exact fB fx fx ⟨by simp[wH,Rr],rfl⟩
 repeat' (first|refine gk (op:= .eql) (r:=false) fx fx (by simp[hG,hc]) ?_|refine QS (z:=c) 0 fx fx fx fx fx ?_|refine ie fx fx ?_|refine iE fx fx ?_|refine fT ?_|fail)
 refine fI fx fx (As w l c) (λr d h1=>?_);exact y8
def Kp (w:i5) (l:fL) (t:l.length<=1000000):fQ prog 221 #[.U l,.U [47]] w λr w'=>r= .tuple #[.string (su (ik l).1),.string (su (ik l).2.1),.bool (ik l).2.2]/\Ext w w':=by
 refine gP func221 fx fE ?_;refine fA ?_;refine fI fx fx (Hf w l 47) (λr u h1=>?_);obtain⟨rfl,rfl⟩:=h1;have hi:=Fh l;cases hm:(ik l).2.2 with
 |false=>
  rw[hm,if_neg fU]at hi;rw[hi];obtain⟨d,f⟩:=yM l hm;refine fA ?_;exact P4 fx fx fx fx ⟨by rw[d,f];rfl,Fr.refl _ _⟩
 |true=>
  rw[hm,if_pos rfl]at hi;rw[hi];have hlen:=rO l hm;have g:=zU l hm;obtain⟨a,m⟩:∃a,a=(ik l).1:=⟨_,rfl⟩;obtain⟨b,n⟩:∃b,b=(ik l).2.1:=⟨_,rfl⟩;rw[<-m,<-n]at hlen g|-;have d:l.take a.length=a:=by rw[g,vr]
  have f:l.drop (a.length+1)=b:=by rw[g,<-rU,List.drop_left];rfl
  repeat' (first|refine xI a.length fx fx fx fx fy ?_|refine VM (a.length+1) fx fx fx iB fy ?_|refine ie fx fx ?_|refine iE fx fx ?_|refine fT ?_|fail)
  exact P4 fx fx fx fx ⟨by rw[d,f],Fr.drew _ _⟩
def Am (w:i5) (l:fL) (f:l.length<=1000000):fQ prog 151 #[.U l,.U [47]] w λr w'=>r= .tuple #[.string (su (ik l).1),.string (su (ik l).2.1),.bool (ik l).2.2]/\Ext w w':=by
 refine gP func151 fx fE ?_;refine fA ?_;refine fI fx fx (Kp w l f) (λr g h1=>?_);obtain⟨rfl,d⟩:=h1;refine fA ?_;exact P4 fx fx fx fx ⟨rfl,d⟩
def wx (c:UInt8):Bool:=decide (c≠47)&&decide (c≠0)
def Ij (s:fL):jU s=(decide (1<=s.length)&&decide (s.length<=20)&&decide (s≠[46])&&decide (s≠[46,46])&&s.all wx):=rfl
def rS {c:UInt8} {n:Nat} (d:n<256):((c.toNat:Int)=(n:Int))↔c=UInt8.ofNat n:=by
 constructor
 .intro h;apply UInt8.toNat_inj.1;rw[wG];omega
 .rintro rfl;rw[wG];omega
def Oz (w:i5) (l:fL):fQ prog 152 #[.U l] w λr w'=>r= .bool (jU l)/\w=w':=by
 refine gD func152 fx fE ?_;rw[Ij]
 by_cases h1:¬1<=l.length
 .refine l4 ?_;refine jh ?_;refine l4 ?_;exact fB fx fx ⟨by simp only[decide_eq_false h1,hW],rfl⟩
 by_cases f:¬l.length<=20
 .refine l4 ?_;refine jh ?_;refine l4 ?_;exact fB fx fx ⟨by simp only[decide_eq_false f,hW,tl],rfl⟩
 have h1:1<=l.length:=fy;have f:l.length<=20:=fy
 by_cases h3:l=[46]
 .subst h3;refine l4 ?_;refine jh ?_
  repeat' (first|refine gk (op:= .eql) (b:=[46]) (r:=true) fx fx fx ?_|refine ie fx fx ?_|refine iE fx fx ?_|refine fT ?_|fail)
  exact y2
 by_cases g:l=[46,46]
 .subst g;refine l4 ?_;refine jh ?_
  repeat' (first|refine gk (op:= .eql) (b:=[46]) (r:=false) fx fx fx ?_|refine gk (op:= .eql) (b:=[46,46]) (r:=true) fx fx fx ?_|refine ie fx fx ?_|refine iE fx fx ?_|refine fT ?_|fail)
  exact y2
 have e:(decide (1<=l.length)&&decide (l.length<=20)&&decide (l≠[46])&&decide (l≠[46,46])&&l.all wx)=l.all wx:=by
  simp[h1,f,h3,g]
 rw[e];refine l4 ?_;refine iq (α:=Nat) 0 fx (λi=>[(0,.U l),(3,.I (i:Int))]) (λi w'=>w=w'/\i<=l.length/\(l.drop i).all wx=l.all wx) (λi=>l.length-i) ?_ ?_
 .rintro i w' ⟨rfl,hi,d⟩
  by_cases fY:i<l.length
  .obtain⟨c,hc⟩:∃c,l[i]? =some c:=⟨_,j9 fY⟩
   have v:l.drop i=c::l.drop (i+1):=by
    rw[Fq fY];rw[j9 fY]at hc;injection hc with hc
    rw[hc]
   rw[v,ra]at d
   by_cases g1:c=47
   .have m:((c.toNat:Int))=47:=by rw[g1];rfl
    refine Vu ?_;exact fB fx fx ⟨by rw[<-d,g1];rfl,rfl⟩
   have m:¬((c.toNat:Int))=47:=λh=>g1 ((rS (n:=47) fU).1 h)
   by_cases g2:c=0
   .have t:((c.toNat:Int))=0:=by rw[g2];rfl
    refine Vu ?_;exact fB fx fx ⟨by rw[<-d,g2];rfl,rfl⟩
   have t:¬((c.toNat:Int))=0:=λh=>g2 ((rS (n:=0) fU).1 h)
   have u:wx c=true:=by simp[wx,g1,g2]
   rw[u,iV]at d;refine Vu ?_;exact hy fx ⟨_,(by show l.length-(i+1)<l.length-i;omega),rfl,i+1,sub ⟨rfl,rfl⟩,⟨rfl,fy,d⟩,rfl⟩
  .obtain rfl:i=l.length:=fy;rw[jP]at d;refine l4 ?_;exact fB fx fx ⟨by rw[<-d];rfl,rfl⟩
 .intro H
  repeat' (first|refine gk (op:= .eql) (b:=[46]) (r:=false) fx fx (by simp[hG,h3]) ?_|refine gk (op:= .eql) (b:=[46,46]) (r:=false) fx fx (by simp[hG,g]) ?_|refine ie fx fx ?_|refine iE fx fx ?_|refine fT ?_|fail)
  refine hI ?_;exact iw (H 0 w ⟨rfl,iF _,rfl⟩) (sub ⟨rfl,rfl⟩)
def xb (k:Nat) (s:fL):Bool:=(hC s).all jU&&decide ((hC s).length<=k)
def Jy (k:Nat) (s:fL):xb (k+1) s=(jU (ik s).1&&(if(ik s).2.2 then xb k (ik s).2.1 else true)):=by
 unfold xb;rw[vF s];cases(ik s).2.2 with
 |false=>simp
 |true=>simp[L8]
def P1 (s:fL):xb 0 s=false:=by
 unfold xb;have:¬(hC s).length<=0:=λh=>kU s (zT.1 fy)
 simp only[decide_eq_false this,tl]
def oC (w:i5) (l:fL):fQ prog 90 #[.U l] w λr w'=>r= .bool (gX l)/\Ext w w':=by
 refine gD func90 fx fE ?_
 by_cases h0:l=[]
 .subst h0;refine l4 ?_;refine jh ?_;refine Y8 ?_;exact fB fx fx ⟨rfl,Fr.refl _ _⟩
 have e0:gX l=((hC l).all jU&&decide (l.length<=100)&&decide ((hC l).length<=8)):=by simp[gX,h0]
 by_cases h1:100<l.length
 .have g:gX l=false:=by rw[e0,decide_eq_false fy];simp
  refine l4 ?_;refine jh ?_;refine Zg ?_;exact fB fx fx ⟨by rw[g],Fr.refl _ _⟩
 have g:gX l=xb 8 l:=by
  rw[e0,decide_eq_true (by omega:l.length<=100),L1];rfl
 rw[g];refine l4 ?_;refine iq (α:=Nat×fL) 0 fx (λx=>[(0,.U x.2),(3,.I (x.1:Int))]) (λx w'=>Ext w w'/\x.1<=8/\x.2.length<=100/\xb (8-x.1) x.2=xb 8 l) (λx=>x.2.length) ?_ ?_
 .rintro⟨i,s⟩ w' ⟨f,hi,hs,d⟩;dsimp only at hi hs d|-;have hlen:=rO s;refine l4 ?_;refine fI fx fx (Am w' s fy) (λr v h1=>?_);obtain⟨rfl,u⟩:=h1;have f:=f.t u;refine l4 ?_;refine fI fx fx (Oz v _) (λr y h1=>?_);obtain⟨rfl,rfl⟩:=h1
  by_cases n:i=8
  .subst n;rw[HD,P1]at d;cases m:jU (ik s).1 with
   |false=>
    exact y39
   |true=>
    exact y39
  rw[show 8-i=(8-(i+1))+1 from by omega,Jy]at d;cases m:jU (ik s).1 with
  |false=>
   rw[m,hW]at d;exact y39
  | true=>
   rw[m,iV]at d;cases hm:(ik s).2.2 with
   |false=>
    rw[hm,if_neg fU]at d;exact y39
   |true=>
    rw[hm,if_pos rfl]at d;have hlen:=hlen hm;refine l4 ?_;exact hy fx ⟨_,(by show(ik s).2.1.length<s.length;omega),rfl,(i+1,(ik s).2.1),sub ⟨rfl,rfl⟩,⟨f,by dsimp only;omega,by dsimp only;omega,d⟩,rfl⟩
 .intro H;refine Zg ?_;refine hI ?_;exact iw (H (0,l) w ⟨Fr.refl _ _,iF _,by dsimp only;omega,rfl⟩) (sub ⟨rfl,rfl⟩)
