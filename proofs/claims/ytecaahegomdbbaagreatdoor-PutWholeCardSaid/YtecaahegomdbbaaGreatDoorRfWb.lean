/- Parts of the proof. -/
import Derived.Lib.Bytealg
import Derived.Test.YtecaahegomdbbaaGreatDoorRfWa
set_option linter.all false
set_option maxRecDepth 100000
set_option maxHeartbeats 64000000
namespace Go.Proofs.YtecaahegomdbbaaGreatDoor.gp
open Go.Proofs.Tryz
open Go.RowKit
variable {s:fQ}
section
attribute [local irreducible] xs T
def Of (l:fQ) (c:UInt8):Nat->Int
 |0=> -1
 |k+1=>if l[k]? =some c then k else Of l c k
theorem GF {l:fQ} {c:UInt8} (h:c∉l):∀k,Of l c k= -1
 |0=>rfl
 |k+1=>by
  rw[Of,if_neg (λe=>h (jS e)),GF h k]
theorem K4 {a x:fQ} {c:UInt8} (h:c∉x):∀j,j<=x.length->Of (a++c::x) c (a.length+1+j)=a.length
 |0,_=>by
  rw[kS,Of,if_pos ir]
 |j+1,d=>by
  rw[←Hj,Of,if_neg ?_,K4 h j fy];intro e;rw[qE fy,show a.length+1+j-a.length=j+1 from by omega,C8]at e;exact h (jS e)
theorem Fh (w:World) (l:fQ) (f:l.length<=1000000):fL prog 170 #[.string (su l),.int .u8 47] w λr w'=>r= .int .i64 (Of l 47 l.length)/\w=w':=by
 refine gK func170 fx fF ?_;refine lP ?_;refine gA (α:=Nat) (λk=>[(0,.string (su l)),(1,.int .u8 47),(5,.int .i64 ((k:Int)-1))]) (λk w'=>w=w'/\k<=l.length/\Of l 47 k=Of l 47 l.length) (λk=>k) l.length (sub ⟨rfl,rfl,rfl⟩) ⟨rfl,gJ _,rfl⟩ ?_;rintro k g ⟨rfl,hk,a⟩;cases k with
 |zero=>
  refine lP ?_;exact fB fx fx ⟨by rw[←a];rfl,rfl⟩
 | succ k=>
  obtain⟨c,hc⟩:∃c,l[k]? =some c:=⟨_,kp fy⟩;rw[Of,hc]at a
  by_cases h:c=47
  ·have d:((c.toNat:Int))=47:=by rw[h];rfl
   rw[if_pos (by rw[h])]at a
   repeat' (first|refine Sn (z:=c) k rfl rfl rfl fy hc ?_|refine iu rfl rfl ?_|refine iH rfl rfl ?_|refine fT ?_|fail)
   exact fB fx fx ⟨by rw[←a];congr 1;omega,rfl⟩
  ·have d:¬((c.toNat:Int))=47:=λe=>h ((tf (n:=47) fV).1 e)
   rw[if_neg (λe=>h (jk e))]at a
   repeat' (first|refine Sn (z:=c) k rfl rfl rfl fy hc ?_|refine iu rfl rfl ?_|refine iH rfl rfl ?_|refine fT ?_|fail)
   exact gn ⟨k,sub ⟨rfl,rfl,jX fy⟩,⟨rfl,fy,a⟩,(by show k<k+1;omega)⟩
theorem D9 (w:World) (l:fQ) (a:l.length<=1000000):fL prog 108 #[.string (su l),.int .u8 47] w λr w'=>r= .int .i64 (Of l 47 l.length)/\w=w':=by
 refine gK func108 fx fF ?_;refine fA ?_;refine fI fx fx (Fh w l a) (λr d h1=>?_);exact y9
def vv (s:fQ):fQ:=(iL s).getD []
theorem SN (hm:gU s=true) (h0:s≠[]):iL s=some (oF s)/\((Of s 47 s.length= -1/\oF s=[])∨∃k:Nat,Of s 47 s.length=k/\k<=s.length/\oF s=s.take k):=by
 have g:fZ s≠[]:=by rw[ig hm h0];exact kK s
 refine⟨by unfold iL;rw[if_neg g],?_⟩;have d:=ky hm;obtain⟨l,x,f⟩:∃l x,fZ s=l++[x]:=⟨_,_,(Lx g).symm⟩
 have n:(47:UInt8)∉x:=by
  have:x∈hg s:=by rw[←ig hm h0,f];simp
  exact u9 s x this
 rw[f]at d;have m:oF s=je l:=by unfold oF;rw[f,BR]
 by_cases h1:l=[]
 ·subst h1;have:s=x:=d.symm;left;exact⟨by rw[this];exact GF n _,by rw[m];rfl⟩
 ·rw[pN l x h1]at d;right;refine⟨(je l).length,?_,?_,?_⟩
  ·rw[←d];have:=K4 (a:=je l) n x.length (gJ _);rw[hQ,iA,show(je l).length+(x.length+1)=(je l).length+1+x.length from by omega];exact this
  ·rw[←d];simp
  ·rw[m,←d,vk]
theorem lM (w:World) (l:fQ):fL prog 62 #[.string (su l)] w λr w'=>r= .tuple #[.string (su (vv l)),.bool (iL l).isSome]/\Ext w w':=by
 refine gr func62 fx fF ?_
 by_cases h0:l=[]
 ·subst h0;refine gz9 ?_;exact ia fx fx fx ⟨rfl,Fr.refl _ _⟩
 refine Yq ?_;refine fI fx fx (oa w l) (λr g h1=>?_);obtain⟨rfl,d⟩:=h1;cases hm:gU l with
 |false=>
  have e:iL l=none:=by unfold iL;rw[if_pos (nX hm)]
  refine lP ?_;exact ia fx fx fx ⟨by rw[vv,e];rfl,d⟩
 | true=>
  have hlen:=lr hm;obtain⟨e,hc⟩:=SN hm h0;refine lP ?_;refine fI fx fx (D9 g l fy) (λr m a=>?_);obtain⟨rfl,rfl⟩:=a;rcases hc with⟨h1,a⟩|⟨k,h1,a,f⟩
  ·rw[h1];refine lP ?_;exact ia fx fx fx ⟨by rw[vv,e,a];rfl,d⟩
  ·rw[h1]
   repeat' (first|refine B1 k rfl rfl rfl rfl a ?_|refine iu rfl rfl ?_|refine iH rfl rfl ?_|refine fT ?_|fail)
   exact ia fx fx fx ⟨by rw[vv,e,f];rfl,d⟩
theorem vJ:∀s:fQ,(hg s).length=s.count 47+1
 |[]=>rfl
 | c::r=>by
  have a:=vJ r
  by_cases hc:c=47
  ·subst hc;simp[hg,a]
  ·rw[hg,if_neg hc,L6 hc];split
   ·rename_i h t e;rw[e]at a;simpa using a
   ·rename_i e;exact absurd e (kK r)
theorem Je (w:World) (l:fQ):fL prog 320 #[.string (su l),.string (su [47])] w λr w'=>r= .int .i64 (l.count 47:Int)/\w=w':=by
 refine gK func320 fx fF ?_
 repeat' (first|refine Sn (z:=47) 0 rfl rfl rfl rfl rfl ?_|refine iu rfl rfl ?_|refine iH rfl rfl ?_|refine fT ?_|fail)
 refine TO (e:=Extern.BytealgCount.count) func358 fF fF fF fF fx (Lib.run_countString (su l) _ w) ?_;refine fA ?_;refine fB fx fx ⟨?_,rfl⟩;simp[Lib.countByte,su]
theorem HN (w:World) (l:fQ) (c:UInt8):fL prog 321 #[.string (su l),.string (su [c])] w λr w'=>r= .int .i64 (vS l c)/\w=w':=by
 refine gK func321 fx fF ?_;refine fA ?_;refine fI fx fx (Fv w l c) (λr a h1=>?_);exact y9
theorem kF:xv 51 9 (.string ⟨#[]⟩) 1 16:=M7 underlying51 fF
structure SpI (l:fQ) (g n:Nat) (w0:World) (x:Nat×List fQ×fQ) (w:World):Prop where
 i:x.1+1<=n
 len:x.2.1.length=x.1
 gH:fU w g 9 (x.2.1.map (λs=>Value.string (su s))++List.replicate (n-x.1) (Value.string ⟨#[]⟩)).toArray
 cut:x.2.1++hg x.2.2=hg l
 sl:x.2.2.length<=l.length
 ext:Ext w0 w
theorem Gb {α:Type} {a b:List α} {i k:Nat} {x y:α} (hi:a.length=i) (hk:b=List.replicate (k+1) y):((a++b).toArray.setIfInBounds i x)=(a++[x]++List.replicate k y).toArray:=by
 subst hk;rw[Hl,Pu _ _ fy,hi,Ou,UN,Wi];simp
theorem Bj (w:World) (l:fQ) (aa:l.length<=1000000):fL prog 286 #[.string (su l),.string (su [47]),.int .i64 0,.int .i64 (-1)] w λr w'=>Ow qK 1 w' w.heap.size 9 r (hg l)/\Ext w w':=by
 refine wS func286 fx fF ?_;have F:=vJ l;have Y:l.count 47<=l.length:=wY;obtain⟨n,G⟩:∃n,n=l.count 47+1:=⟨_,rfl⟩;have S:min ((l.count 47:Int)+1) ((l.length:Int)+1)=(n:Int):=fy
 repeat' (first|refine gq (op:= .eql) (b:=[]) (r:=false) rfl rfl rfl ?_|refine iu rfl rfl ?_|refine iH rfl rfl ?_|refine fT ?_|fail)
 refine fI fx fx (Je w l) (λr U h1=>?_);obtain⟨rfl,rfl⟩:=h1
 repeat' (first|refine Ot rfl rfl ?_|refine iu rfl rfl ?_|refine iH rfl rfl ?_|refine fT ?_|fail)
 rw[S];refine fA ?_;refine XQ kF fx fx fx fy fy fy (λU C M ab=>?_);rw[jf]at C⊢;refine fA ?_;refine gA (α:=Nat×List fQ×fQ) (λx=>[(0,.string (su x.2.2)),(1,.string (su [47])),(2,.int .i64 0),(3,.int .i64 ((n:Int)-1)),(9,.slice (some ⟨w.heap.size,0,none⟩) n n),(10,.int .i64 (x.1:Int))]) (SpI l w.heap.size n w) (λx=>n-x.1) (0,[],l) (sub ⟨rfl,rfl,rfl,rfl,rfl,rfl⟩) ⟨by dsimp only;omega,rfl,by simpa using C,rfl,gJ _,M⟩ ?_;rintro⟨i,done,s⟩ V ⟨hi,hlen,m,g,T,t⟩;dsimp only at hi hlen m g T t⊢;have E:done.length+(hg s).length=n:=by rw[←hQ,g,F,G]
 have d:=vg s
 by_cases fW:i<n-1
 ·have hm:(h6 s).2.2=true:=by
   cases hm:(h6 s).2.2 with
   |true=>rfl
   |false=>rw[hm]at d;rw[d]at E;simp at E;omega
  have R:=qY s hm;have v:=zQ s hm;have B:=Ei s;rw[hm,if_pos rfl]at B;rw[hm,if_pos rfl]at d;obtain⟨a,D⟩:∃a,a=(h6 s).1:=⟨_,rfl⟩;obtain⟨b,N⟩:∃b,b=(h6 s).2.1:=⟨_,rfl⟩;rw[←D]at B;rw[←D,←N]at R v d;have I:s.take a.length=a:=by rw[v,vk]
  have J:s.drop (a.length+1)=b:=by rw[v,←rb,List.drop_left];rfl
  refine lP ?_;refine fI fx fx (HN V s 47) (λr H K=>?_);obtain⟨rfl,rfl⟩:=K;rw[B]
  repeat' (first|refine B1 a.length rfl rfl rfl fy fy ?_|refine kV i i rfl rfl rfl rfl fy fy ?_|refine iu rfl rfl ?_|refine iH rfl rfl ?_|refine fT ?_|fail)
  refine iq m fx fx fx fx (by rw[decide_eq_true_eq];simp;omega) (λH f u=>?_);rw[I,Gb (k:=n-(i+1)) (y:= .string ⟨#[]⟩) (by simpa using hlen) (by congr 1;omega)]at f
  repeat' (first|refine UU (a.length+1) rfl rfl rfl ir fy ?_|refine iu rfl rfl ?_|refine iH rfl rfl ?_|refine fT ?_|fail)
  rw[J];exact gn ⟨(i+1,done++[a],b),sub ⟨rfl,rfl,rfl,rfl,rfl,rfl⟩,⟨by dsimp only;omega,by dsimp only;rw[hQ,hlen];rfl,by dsimp only;rw[pE];exact f,by dsimp only;rw[←g,d,j7];rfl,by dsimp only;omega,Ext.te t u λj Q e=>by have e':j=w.heap.size:=e;omega⟩,(by show n-(i+1)<n-i;omega)⟩
 ·have Z:i=n-1:=fy
  have O:hg s=[s]:=by
   have:(h6 s).2.2=false:=by
    cases hm:(h6 s).2.2 with
    |false=>rfl
    |true=>
     rw[hm,if_pos rfl]at d;have h1:=congrArg List.length d;have X:0<(hg (h6 s).2.1).length:=tE.2 (kK _);simp at h1;omega
   rw[d,this,(yi s this).1];rfl
  repeat' (first|refine kV i i rfl rfl rfl rfl fy fy ?_|refine iu rfl rfl ?_|refine iH rfl rfl ?_|refine fT ?_|fail)
  refine iq m fx fx fx fx (by rw[decide_eq_true_eq];simp;omega) (λH f u=>?_);rw[Gb (k:=0) (y:= .string ⟨#[]⟩) (by simpa using hlen) (by congr 1;omega)]at f;refine lP ?_;refine WE fx fx fx fy fy (λW L=>?_);obtain rfl:=L _ _ rfl fy;refine fA ?_;refine fB fx fx ⟨?_,Ext.te t u λj Q e=>by have e':j=w.heap.size:=e;omega⟩;rw[show((i:Int)+1).toNat=n from by omega];refine Ow.EE oO f ?_ (gJ _) (by rw[F,G]) (by unfold maxLen;omega);rw[←g,O,KB,pE];simp
theorem IF (w:World) (l:fQ) (d:l.length<=1000000):fL prog 236 #[.string (su l),.string (su [47])] w λr w'=>Ow qK 1 w' w.heap.size 9 r (hg l)/\Ext w w':=by
 refine gK func236 fx fF ?_;refine fA ?_;refine fI fx fx (Bj w l d) (λr f h1=>?_);obtain⟨h1,a⟩:=h1;refine fA ?_;exact fB fx fx ⟨h1,a⟩
theorem zq (w:World) (l:fQ):fL prog 174 #[.string (su l)] w λr w'=>Ow qK 1 w' w.heap.size 9 r (fZ l)/\Ext w w':=by
 refine gr func174 fx fF ?_
 by_cases h0:l=[]
 ·subst h0;refine gz9 ?_;exact fB fx fx ⟨Ow.nil _ _ _,Fr.refl _ _⟩
 refine Yq ?_;refine fI fx fx (oa w l) (λr g h1=>?_);obtain⟨rfl,d⟩:=h1;cases hm:gU l with
 |false=>
  refine lP ?_;exact fB fx fx ⟨by rw[nX hm];exact Ow.nil _ _ _,d⟩
 |true=>
  have hlen:=lr hm;refine lP ?_;refine fI fx fx (IF g l fy) (λr m a=>?_);obtain⟨a,f⟩:=a;refine lP ?_;exact fB fx fx ⟨by rw[ig hm h0];exact a.mono d.size,d.t f⟩
theorem FB {l:List fQ} (h:l≠[]):l[l.length-1]? =some (l.getLastD []):=by
 rw[List.getLastD_eq_getLast?,List.getLast?_eq_getElem?];have:0<l.length:=tE.2 h;rw[kp fy];rfl
theorem Mr (w:World) (l:fQ):fL prog 171 #[.string (su l)] w λr w'=>r= .string (su (mO l))/\Ext w w':=by
 refine gr func171 fx fF ?_;refine lP ?_;refine fI fx fx (zq w l) (λr v h1=>?_);obtain⟨h1,a⟩:=h1;have u:=rW l;obtain⟨A,c,rfl,s,t,f⟩:=h1.rw.op oO
 by_cases h0:fZ l=[]
 ·have n:(fZ l).length=0:=by rw[h0];rfl
  refine lP ?_;exact fB fx fx ⟨by rw[mO,h0];rfl,a⟩
 ·have n:0<(fZ l).length:=tE.2 h0;obtain⟨b,o,x,rfl,_,d,_,g⟩:=f.at_ (i:=(fZ l).length-1) fy
  have m:x=mO l:=by
   rw[FB h0]at d;exact(jk d).symm
  have hk:=g 0 _ rfl;refine Zd ?_;refine AU fx fx (by rw[ph,kS]at hk;exact hk) ?_;refine lP ?_;exact fB fx fx ⟨by rw[m],a⟩
def Wp (s:fQ):List fQ:=if s=[]then[]else hg s
def CF (s:fQ):Prop:=s=[]∨∀x∈hg s,x≠[]
theorem xU (h:CF s) (h0:s≠[]):Wp s=(h6 s).1::Wp (h6 s).2.1/\CF (h6 s).2.1/\(h6 s).2.1.length<s.length/\s.length<=(h6 s).1.length+1+(h6 s).2.1.length:=by
 have a:∀x∈hg s,x≠[]:=h.resolve_left h0;have hc:=vg s;unfold Wp;rw[if_neg h0,hc];cases hm:(h6 s).2.2 with
 |false=>
  obtain⟨d,f⟩:=yi s hm;rw[f,d];refine⟨rfl,.inl fx,tE.2 h0,by simp⟩
 | true=>
  have n:=qY s hm;rw[if_pos rfl];rw[hm,if_pos rfl]at hc
  have g:(h6 s).2.1≠[]:=by
   intro e;exact a [] (by rw[hc,e];simp[hg]) fx
  rw[if_neg g];exact⟨rfl,.inr λx m=>a x (by rw[hc];exact qe _ m),fy,by omega⟩
theorem GI (h:gU s=true):Wp s=fZ s/\CF s:=by
 by_cases h0:s=[]
 ·subst h0;exact⟨rfl,.inl rfl⟩
 ·refine⟨by unfold Wp;rw[if_neg h0,ig h h0],.inr λx a=>Ax ((sd h h0).1 x a)⟩
structure LsI (a0 b0:fQ) (w0:World) (x:fQ×fQ) (w:World):Prop where
 ga:CF x.1
 gb:CF x.2
 la:x.1.length<=100
 lb:x.2.length<=100
 go:iV (Wp x.1) (Wp x.2)=ie a0 b0
 ext:Ext w0 w
theorem Zm (a:fQ):∃d,(if gU a then a else[])=d/\Wp d=fZ a/\CF d/\d.length<=100:=by
 cases h:gU a with
 |true=>exact⟨a,rfl,(GI h).1,(GI h).2,lr h⟩
 |false=>exact⟨[],rfl,by rw[nX h];rfl,.inl rfl,by simp⟩
theorem sA (w:World) (a b:fQ):fL prog 86 #[.string (su a),.string (su b)] w λr w'=>r= .bool (ie a b)/\Ext w w':=by
 refine gK func86 fx fF ?_;obtain⟨m,n,L,ga,la⟩:=Zm a;obtain⟨b',s,M,gb,lb⟩:=Zm b;refine fA ?_;refine h9 (α:=fQ×fQ) 0 fx (λx=>[(0,.string (su x.1)),(1,.string (su x.2))]) (LsI a b w) (λx=>x.1.length) ?_ ?_
 ·rintro⟨p,q⟩ v ⟨C,D,J,K,d,u⟩;dsimp only at C D J K d⊢
  by_cases f:p=[]
  ·subst f
   by_cases hq:q=[]
   ·subst hq
    repeat' (first|refine gq (op:= .neq) (b:=[]) (r:=false) rfl rfl rfl ?_|refine gq (op:= .eql) (b:=[]) (r:=true) rfl rfl rfl ?_|refine iu rfl rfl ?_|refine iH rfl rfl ?_|refine fT ?_|fail)
    exact fB fx fx ⟨by rw[←d];rfl,u⟩
   ·repeat' (first|refine gq (op:= .neq) (b:=[]) (r:=false) rfl rfl rfl ?_|refine gq (op:= .eql) (b:=[]) (r:=true) rfl rfl rfl ?_|refine gq (op:= .neq) (b:=[]) (r:=true) rfl rfl (by simp[hZ,hq]) ?_|refine iu rfl rfl ?_|refine iH rfl rfl ?_|refine fT ?_|fail)
    refine fB fx fx ⟨?_,u⟩;rw[←d,(xU D hq).1];rfl
  ·by_cases hq:q=[]
   ·subst hq
    repeat' (first|refine gq (op:= .neq) (b:=[]) (r:=false) rfl rfl rfl ?_|refine gq (op:= .eql) (b:=[]) (r:=false) rfl rfl (by simp[hZ,f]) ?_|refine gq (op:= .neq) (b:=[]) (r:=true) rfl rfl (by simp[hZ,f]) ?_|refine iu rfl rfl ?_|refine iH rfl rfl ?_|refine fT ?_|fail)
    refine fB fx fx ⟨?_,u⟩;rw[←d,(xU C f).1];rfl
   ·obtain⟨p1,p2,N,_⟩:=xU C f;obtain⟨q1,q2,q3,_⟩:=xU D hq;rw[p1,q1,iV]at d
    repeat' (first|refine gq (op:= .neq) (a:=p) (b:=[]) (r:=true) rfl rfl (by simp[hZ,f]) ?_|refine gq (op:= .neq) (a:=q) (b:=[]) (r:=true) rfl rfl (by simp[hZ,hq]) ?_|refine iu rfl rfl ?_|refine iH rfl rfl ?_|refine fT ?_|fail)
    refine fI fx fx (zZ v p fy) (λr g y=>?_);obtain⟨rfl,B⟩:=y;refine fA ?_;refine fI fx fx (zZ g q fy) (λr O F=>?_);obtain⟨rfl,I⟩:=F;have E:=u.t (B.t I);refine fA ?_
    by_cases e:(h6 p).1=(h6 q).1
    ·rw[if_pos e]at d
     repeat' (first|refine gq (op:= .neq) (r:=false) rfl rfl (by simp[hZ,e]) ?_|refine iu rfl rfl ?_|refine iH rfl rfl ?_|refine fT ?_|fail)
     exact gX fx ⟨_,(by show(h6 p).2.1.length<p.length;omega),rfl,((h6 p).2.1,(h6 q).2.1),sub ⟨rfl,rfl⟩,⟨p2,q2,by dsimp only;omega,by dsimp only;omega,d,E⟩,rfl⟩
    ·rw[if_neg e]at d
     repeat' (first|refine gq (op:= .neq) (r:=true) rfl rfl (by simp[hZ,e]) ?_|refine gq (op:= .lss) rfl rfl rfl ?_|refine iu rfl rfl ?_|refine iH rfl rfl ?_|refine fT ?_|fail)
     exact fB fx fx ⟨by rw[←d],E⟩
 ·intro H;refine fA ?_;refine fI fx fx (oa w a) (λr v h1=>?_);obtain⟨rfl,G⟩:=h1;refine fA ?_;refine qD (α:=Unit) (λ_=>[(0,.string (su m)),(1,.string (su b))]) (λ_ w'=>v=w') ?_ ?_
  ·cases hm:gU a with
   |true=>
    rw[hm,if_pos rfl]at n;subst n;exact ZF
   |false=>
    rw[hm,if_neg fV]at n;subst n;exact ZF
  rintro _ _ rfl;refine fA ?_;refine fI fx fx (oa v b) (λr g y=>?_);obtain⟨rfl,B⟩:=y;have fin:LsI a b w (m,b') g:=⟨ga,gb,la,lb,by dsimp only;rw[L,M];rfl,G.t B⟩;cases hm:gU b with
  |true=>
   rw[hm,if_pos rfl]at s;subst s;refine fA ?_;refine hv ?_;exact ic (H (m,b) g fin) (sub ⟨rfl,rfl⟩)
  |false=>
   rw[hm,if_neg fV]at s;subst s;refine fA ?_;refine hv ?_;exact ic (H (m,[]) g fin) (sub ⟨rfl,rfl⟩)
end
end Go.Proofs.YtecaahegomdbbaaGreatDoor.gp
