/- Parts of the proof. -/
import Derived.Test.YtecaahegomdbbaaGreatDoorRfB0a
set_option linter.all false
set_option maxRecDepth 100000
set_option maxHeartbeats 64000000
namespace Go.Proofs.YtecaahegomdbbaaGreatDoor.gp
open Go.Proofs.Tryz
open Go.RowKit
section
attribute [local irreducible] xs T
def vS (l:fQ) (c:UInt8):Int:=match l.findIdx? (· ==c)with
 |some i=>i
 |none=> -1
theorem firstIdx_eq (l:fQ) (c:UInt8):firstIdx (su l) c=vS l c:=by
 unfold firstIdx vS;rw[ko]
 have a:∀i,i<l.length->(su l)[i]! =l.getD i default:=by
  intro i hi;have d:i<(su l).size:=by rw[ko];exact hi
  rw[getElem!_pos (su l) i d];show(su l).data[i]'d=_
  simp[su,hi]
 cases h:l.findIdx? (· ==c)with
 | none=>
  have:(List.range l.length).find? (λi=>(su l)[i]! ==c)=none:=by
   rw[List.find?_eq_none];intro i hi;have hi:=xK.1 hi;rw[a i hi];rw[Vd]at h;have:=h (l[i]) (xd hi);rw[kv,kp hi];simpa using this
  rw[this]
 | some i=>
  obtain⟨hi,h1,f⟩:=Wu.1 h
  have:(List.range l.length).find? (λi=>(su l)[i]! ==c)=some i:=by
   rw[List.find?_range_eq_some];refine⟨?_,xK.2 hi,λj g=>?_⟩
   ·rw[a i hi,kv,kp hi];exact h1
   ·rw[a j fy,kv,kp fy];have:=f j g;simpa using this
  rw[this]
theorem Ei:∀l:fQ,vS l 47=if(h6 l).2.2 then((h6 l).1.length:Int)else-1
 |[]=>rfl
 | c::r=>by
  have a:=Ei r;unfold vS at a⊢;rw[RR]
  by_cases hc:c=47
  ·subst hc;simp[h6]
  ·have f:(c==47)=false:=by simpa using hc
   simp only[h6,if_neg hc,f];cases h:r.findIdx? (· ==47)with
   |none=>rw[h]at a;simp only[PH]at a⊢;split at a<;>rename_i d<;>simp[d]<;>omega
   |some i=>rw[h]at a;simp only[tH]at a⊢;split at a<;>rename_i d<;>simp[d]<;>omega
theorem yw (w:World) (l:fQ) (c:UInt8):fL prog 157 #[.string (su l),.int .u8 (c.toNat:Int)] w λr w'=>r= .int .i64 (vS l c)/\w=w':=by
 refine gK func157 fx fF ?_;refine fA ?_;refine TO (e:=Extern.BytealgIndexByte.indexByte) func225 fF fF fF fF fx (run_indexByte_string (su l) _ w) ?_;refine fA ?_;refine fB fx fx ⟨?_,rfl⟩;rw[←firstIdx_eq];simp
theorem Fv (w:World) (l:fQ) (c:UInt8):fL prog 270 #[.string (su l),.string (su [c])] w λr w'=>r= .int .i64 (vS l c)/\w=w':=by
 refine gK func270 fx fF ?_;refine lP ?_
 by_cases hc:[c]=l
 ·subst hc
  repeat' (first|refine gq (op:= .eql) (r:=true) rfl rfl (by simp[hZ]) ?_|refine iu rfl rfl ?_|refine iH rfl rfl ?_|refine fT ?_|fail)
  exact fB fx fx ⟨by simp[vS,RR],rfl⟩
 repeat' (first|refine gq (op:= .eql) (r:=false) rfl rfl (by simp[hZ,hc]) ?_|refine Sn (z:=c) 0 rfl rfl rfl rfl rfl ?_|refine iu rfl rfl ?_|refine iH rfl rfl ?_|refine fT ?_|fail)
 refine fI fx fx (yw w l c) (λr a h1=>?_);exact y9
theorem JW (w:World) (l:fQ) (s:l.length<=1000000):fL prog 221 #[.string (su l),.string (su [47])] w λr w'=>r= .tuple #[.string (su (h6 l).1),.string (su (h6 l).2.1),.bool (h6 l).2.2]/\Ext w w':=by
 refine gK func221 fx fF ?_;refine fA ?_;refine fI fx fx (Fv w l 47) (λr t h1=>?_);obtain⟨rfl,rfl⟩:=h1;have hi:=Ei l;cases hm:(h6 l).2.2 with
 |false=>
  rw[hm,if_neg fV]at hi;rw[hi];obtain⟨d,f⟩:=yi l hm;refine fA ?_;exact PX fx fx fx fx ⟨by rw[d,f];rfl,Fr.refl _ _⟩
 |true=>
  rw[hm,if_pos rfl]at hi;rw[hi];have hlen:=qY l hm;have g:=zQ l hm;obtain⟨a,m⟩:∃a,a=(h6 l).1:=⟨_,rfl⟩;obtain⟨b,n⟩:∃b,b=(h6 l).2.1:=⟨_,rfl⟩;rw[←m,←n]at hlen g⊢;have d:l.take a.length=a:=by rw[g,vk]
  have f:l.drop (a.length+1)=b:=by rw[g,←rb,List.drop_left];rfl
  repeat' (first|refine B1 a.length rfl rfl rfl rfl fy ?_|refine UU (a.length+1) rfl rfl rfl ir fy ?_|refine iu rfl rfl ?_|refine iH rfl rfl ?_|refine fT ?_|fail)
  exact PX fx fx fx fx ⟨by rw[d,f],Fr.drew _ _⟩
theorem zZ (w:World) (l:fQ) (d:l.length<=1000000):fL prog 151 #[.string (su l),.string (su [47])] w λr w'=>r= .tuple #[.string (su (h6 l).1),.string (su (h6 l).2.1),.bool (h6 l).2.2]/\Ext w w':=by
 refine gK func151 fx fF ?_;refine fA ?_;refine fI fx fx (JW w l d) (λr f h1=>?_);obtain⟨rfl,a⟩:=h1;refine fA ?_;exact PX fx fx fx fx ⟨rfl,a⟩
def wa (c:UInt8):Bool:=decide (c≠47)&&decide (c≠0)
theorem F7 (s:fQ):jM s=(decide (1<=s.length)&&decide (s.length<=20)&&decide (s≠[46])&&decide (s≠[46,46])&&s.all wa):=rfl
theorem tf {c:UInt8} {n:Nat} (a:n<256):((c.toNat:Int)=(n:Int))↔c=UInt8.ofNat n:=by
 constructor
 ·intro h;apply UInt8.toNat_inj.1;rw[vI];omega
 ·rintro rfl;rw[vI];omega
theorem N3 (w:World) (l:fQ):fL prog 152 #[.string (su l)] w λr w'=>r= .bool (jM l)/\w=w':=by
 refine gr func152 fx fF ?_;rw[F7]
 by_cases h1:¬1<=l.length
 ·refine lP ?_;refine iX ?_;refine lP ?_;exact fB fx fx ⟨by simp only[decide_eq_false h1,hW],rfl⟩
 by_cases d:¬l.length<=20
 ·refine lP ?_;refine iX ?_;refine lP ?_;exact fB fx fx ⟨by simp only[decide_eq_false d,hW,sO],rfl⟩
 have h1:1<=l.length:=fy;have d:l.length<=20:=fy
 by_cases f:l=[46]
 ·subst f;refine lP ?_;refine iX ?_
  repeat' (first|refine gq (op:= .eql) (b:=[46]) (r:=true) rfl rfl rfl ?_|refine iu rfl rfl ?_|refine iH rfl rfl ?_|refine fT ?_|fail)
  exact y2
 by_cases g:l=[46,46]
 ·subst g;refine lP ?_;refine iX ?_
  repeat' (first|refine gq (op:= .eql) (b:=[46]) (r:=false) rfl rfl rfl ?_|refine gq (op:= .eql) (b:=[46,46]) (r:=true) rfl rfl rfl ?_|refine iu rfl rfl ?_|refine iH rfl rfl ?_|refine fT ?_|fail)
  exact y2
 have e:(decide (1<=l.length)&&decide (l.length<=20)&&decide (l≠[46])&&decide (l≠[46,46])&&l.all wa)=l.all wa:=by
  simp[h1,d,f,g]
 rw[e];refine lP ?_;refine h9 (α:=Nat) 0 fx (λi=>[(0,.string (su l)),(3,.int .i64 (i:Int))]) (λi w'=>w=w'/\i<=l.length/\(l.drop i).all wa=l.all wa) (λi=>l.length-i) ?_ ?_
 ·rintro i w' ⟨rfl,hi,a⟩
  by_cases fW:i<l.length
  ·obtain⟨c,hc⟩:∃c,l[i]? =some c:=⟨_,kp fW⟩
   have u:l.drop i=c::l.drop (i+1):=by
    rw[EJ fW];rw[kp fW]at hc;injection hc with hc
    rw[hc]
   rw[u,rJ]at a
   by_cases g1:c=47
   ·have m:((c.toNat:Int))=47:=by rw[g1];rfl
    refine SE ?_;exact fB fx fx ⟨by rw[←a,g1];rfl,rfl⟩
   have m:¬((c.toNat:Int))=47:=λh=>g1 ((tf (n:=47) fV).1 h)
   by_cases g2:c=0
   ·have s:((c.toNat:Int))=0:=by rw[g2];rfl
    refine SE ?_;exact fB fx fx ⟨by rw[←a,g2];rfl,rfl⟩
   have s:¬((c.toNat:Int))=0:=λh=>g2 ((tf (n:=0) fV).1 h)
   have t:wa c=true:=by simp[wa,g1,g2]
   rw[t,iU]at a;refine SE ?_;exact gX fx ⟨_,(by show l.length-(i+1)<l.length-i;omega),rfl,i+1,sub ⟨rfl,rfl⟩,⟨rfl,fy,a⟩,rfl⟩
  ·obtain rfl:i=l.length:=fy;rw[jJ]at a;refine lP ?_;exact fB fx fx ⟨by rw[←a];rfl,rfl⟩
 ·intro H
  repeat' (first|refine gq (op:= .eql) (b:=[46]) (r:=false) rfl rfl (by simp[hZ,f]) ?_|refine gq (op:= .eql) (b:=[46,46]) (r:=false) rfl rfl (by simp[hZ,g]) ?_|refine iu rfl rfl ?_|refine iH rfl rfl ?_|refine fT ?_|fail)
  refine hv ?_;exact ic (H 0 w ⟨rfl,iy _,rfl⟩) (sub ⟨rfl,rfl⟩)
def wO (k:Nat) (s:fQ):Bool:=(hg s).all jM&&decide ((hg s).length<=k)
theorem J5 (k:Nat) (s:fQ):wO (k+1) s=(jM (h6 s).1&&(if(h6 s).2.2 then wO k (h6 s).2.1 else true)):=by
 unfold wO;rw[vg s];cases(h6 s).2.2 with
 |false=>simp
 |true=>simp[LZ]
theorem Py (s:fQ):wO 0 s=false:=by
 unfold wO;have:¬(hg s).length<=0:=λh=>kK s (zJ.1 fy)
 simp only[decide_eq_false this,sO]
theorem oa (w:World) (l:fQ):fL prog 90 #[.string (su l)] w λr w'=>r= .bool (gU l)/\Ext w w':=by
 refine gr func90 fx fF ?_
 by_cases h0:l=[]
 ·subst h0;refine lP ?_;refine iX ?_;refine gz9 ?_;exact fB fx fx ⟨rfl,Fr.refl _ _⟩
 have e0:gU l=((hg l).all jM&&decide (l.length<=100)&&decide ((hg l).length<=8)):=by simp[gU,h0]
 by_cases h1:100<l.length
 ·have f:gU l=false:=by rw[e0,decide_eq_false fy];simp
  refine lP ?_;refine iX ?_;refine Yq ?_;exact fB fx fx ⟨by rw[f],Fr.refl _ _⟩
 have f:gU l=wO 8 l:=by
  rw[e0,decide_eq_true (by omega:l.length<=100),KY];rfl
 rw[f];refine lP ?_;refine h9 (α:=Nat×fQ) 0 fx (λx=>[(0,.string (su x.2)),(3,.int .i64 (x.1:Int))]) (λx w'=>Ext w w'/\x.1<=8/\x.2.length<=100/\wO (8-x.1) x.2=wO 8 l) (λx=>x.2.length) ?_ ?_
 ·rintro⟨i,s⟩ w' ⟨d,hi,hs,a⟩;dsimp only at hi hs a⊢;have hlen:=qY s;refine lP ?_;refine fI fx fx (zZ w' s fy) (λr u h1=>?_);obtain⟨rfl,n⟩:=h1;have d:=d.t n;refine lP ?_;refine fI fx fx (N3 u _) (λr v h1=>?_);obtain⟨rfl,rfl⟩:=h1
  by_cases m:i=8
  ·subst m;rw[Ou,Py]at a;cases g:jM (h6 s).1 with
   |false=>
    exact y36
   |true=>
    exact y36
  rw[show 8-i=(8-(i+1))+1 from by omega,J5]at a;cases g:jM (h6 s).1 with
  |false=>
   rw[g,hW]at a;exact y36
  | true=>
   rw[g,iU]at a;cases hm:(h6 s).2.2 with
   |false=>
    rw[hm,if_neg fV]at a;exact y36
   |true=>
    rw[hm,if_pos rfl]at a;have hlen:=hlen hm;refine lP ?_;exact gX fx ⟨_,(by show(h6 s).2.1.length<s.length;omega),rfl,(i+1,(h6 s).2.1),sub ⟨rfl,rfl⟩,⟨d,by dsimp only;omega,by dsimp only;omega,a⟩,rfl⟩
 ·intro H;refine Yq ?_;refine hv ?_;exact ic (H (0,l) w ⟨Fr.refl _ _,iy _,by dsimp only;omega,rfl⟩) (sub ⟨rfl,rfl⟩)
end
end Go.Proofs.YtecaahegomdbbaaGreatDoor.gp
